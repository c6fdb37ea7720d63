/- Parts of the proof, joined: ChRefA, RoCheck, RoRoute, RoCopy. -/
import Derived.Test.YtblepmmibhphhaaGreatDoorRn19
import Derived.Test.YtblepmmibhphhaaGreatDoorRn18
import Derived.Test.YtblepmmibhphhaaGreatDoorRn8
import Derived.Test.YtblepmmibhphhaaGreatDoorRn12
import Derived.Deep.RegionHeld3
/- The contracts of the reference's Find, begin and replace. · The contract of the reference's replace. · The contract of the reference's Mark. Printed by gen_chref2.py. · The contract of the reference's Split. Printed by gen_chref2.py. · The contract of the reference's Join. Printed by gen_chref2.py. · The contract of the reference's Give. Printed by gen_chref2.py. -/
namespace Go.Proofs.YtblepmmibhphhaaGreatDoor
open Go.RowKit

def verC (v : Int) (c : Ch) : Ch := ⟨c.lo, c.hi, c.sh, v, c.ju⟩

set_option maxRecDepth 100000 in
set_option maxHeartbeats 1000000 in
theorem rbegin_any (R : Ro) (a : RA) (key : ByteArray) (w : World) (h : RR w a R) :
    Calls Tryz.prog 63 #[rval a R, .string key] w fun e w' => e = .returned (.int .i64 (idxI (begB key) R.cs)) ∧ Below w.heap.size w w' := by
  obtain ⟨KA, kn, kc, CA, cn, cc⟩ := a
  have H := Lib.hid h
  have hn : Hid (cn = R.cs.length) := h.cs.ln
  have hcz : cn * 56 ≤ reach := h.cs.sz
  have hkn : cn ≤ 140737488355328 := by unfold reach at hcz; omega
  clear h hcz
  have B0 : Hid (Blk (w.alloc (Obj.cells (rarr ⟨KA, kn, kc, CA, cn, cc⟩ R) 45)) w.heap.size 45 (rarr ⟨KA, kn, kc, CA, cn, cc⟩ R)) := Blk.new_at rfl
  have BE : Hid (Below w.heap.size w (w.alloc (Obj.cells (rarr ⟨KA, kn, kc, CA, cn, cc⟩ R) 45))) := (Below.refl _ _).alloc (Nat.le_refl _) _
  go_enter Tryz.func63, Tryz.ntmps63
  go_upto_region 1 with fail
  change (Code.region 1 _ _).wp _ _ _ (w.alloc (Obj.cells (rarr ⟨KA, kn, kc, CA, cn, cc⟩ R) 45))
  generalize w.alloc (Obj.cells (rarr ⟨KA, kn, kc, CA, cn, cc⟩ R) 45) = wa at *
  obtain ⟨q0, q1, q2, q3, q4, q5, qz⟩ := blk_ro B0.out
  simp only at q1 q5
  clear q0 q1 q2 q3 q4
  go_wp2_with fail
  go_loopw [5] (fun v wr => ∃ i : Nat, i ≤ cn ∧ v = .int .i64 i ∧ idxI (begB key) R.cs = idxFrom (begB key) (R.cs.drop i) i ∧ wr = wa) (fun v _ => cn - (intOf v).toNat)
  case atStart => exact ⟨0, Nat.zero_le _, rfl, rfl, rfl⟩
  case round =>
    obtain ⟨i, hi, rfl, ha, rfl⟩ := hrel
    have HA := Lib.hid ha
    clear ha
    by_cases hlt : i < cn
    · obtain ⟨b, off, x, hA, hb, hx, e0, _, _, _, _⟩ := H.out.cs.sr.at5 hlt
      simp only at hA
      subst hA
      have HX := Lib.hid (idxFrom_at (p := begB key) hx)
      have g0 := (BE.out.cell (p := ⟨b, off + i * 5, none⟩) hb).trans e0
      clear hx e0
      cases hq : (x.lo.toList == key.toList)
      · have HF : Hid (idxI (begB key) R.cs = idxFrom (begB key) (R.cs.drop (i + 1)) (i + 1)) := by rw [Hid, HA.out, HX.out]; unfold begB; rw [hq]; rfl
        go_wp2_with fail
        go_roundw
        case rel => exact ⟨i + 1, by omega, by go_num, HF.out, trivial⟩
        case measure => simp [intOf]; omega
      · have HF : Hid (idxI (begB key) R.cs = (i : Int)) := by rw [Hid, HA.out, HX.out]; unfold begB; rw [hq]; rfl
        go_wp2_with fail
        go_ret
        exact ⟨by rw [HF.out]; rfl, BE.out⟩
    · have HF : Hid (idxI (begB key) R.cs = -1) := by rw [Hid, HA.out]; exact idxFrom_end (by have := hn.out; omega)
      go_wp2_with fail
      go_ret
      exact ⟨by rw [HF.out]; rfl, BE.out⟩

theorem leq_lt (x y : List UInt8) : (Op.bytesLess x y || x == y) = !(Op.bytesLess y x) := by
  have irr : ∀ z : List UInt8, Op.bytesLess z z = false := by
    intro z
    induction z with
    | nil => rfl
    | cons a r ih => simp [Op.bytesLess, ih]
  induction x generalizing y with
  | nil => cases y with
    | nil => rfl
    | cons b s => rfl
  | cons a r ih => cases y with
    | nil => rfl
    | cons b s =>
      simp only [Op.bytesLess]
      rcases Nat.lt_trichotomy a.toNat b.toNat with h | h | h
      · have h1 : decide (a < b) = true := decide_eq_true (UInt8.lt_iff_toNat_lt.2 h)
        have h2 : decide (b < a) = false := decide_eq_false (fun k => by have := UInt8.lt_iff_toNat_lt.1 k; omega)
        have h3 : (b == a) = false := by rw [beq_eq_false_iff_ne]; rintro rfl; omega
        rw [h1, h2, h3]
        simp
      · have hab : a = b := UInt8.toNat_inj.1 h
        subst hab
        have h1 : decide (a < a) = false := decide_eq_false (fun k => by have := UInt8.lt_iff_toNat_lt.1 k; omega)
        rw [h1]
        have := ih s
        simpa using this
      · have h1 : decide (a < b) = false := decide_eq_false (fun k => by have := UInt8.lt_iff_toNat_lt.1 k; omega)
        have h2 : decide (b < a) = true := decide_eq_true (UInt8.lt_iff_toNat_lt.2 h)
        have h3 : (a == b) = false := by rw [beq_eq_false_iff_ne]; rintro rfl; omega
        have h4 : (a :: r == b :: s) = false := by rw [beq_eq_false_iff_ne]; intro k; injection k with k; subst k; omega
        rw [h1, h2, h3, h4]
        rfl

set_option maxRecDepth 100000 in
set_option maxHeartbeats 1000000 in
theorem rfind_any (R : Ro) (a : RA) (key : ByteArray) (w : World) (h : RR w a R) :
    Calls Tryz.prog 95 #[rval a R, .string key] w fun e w' => e = .returned (.int .i64 (idxI (inB key) R.cs)) ∧ Below w.heap.size w w' := by
  obtain ⟨KA, kn, kc, CA, cn, cc⟩ := a
  have H := Lib.hid h
  have hn : Hid (cn = R.cs.length) := h.cs.ln
  have hcz : cn * 56 ≤ reach := h.cs.sz
  have hkn : cn ≤ 140737488355328 := by unfold reach at hcz; omega
  clear h hcz
  have B0 : Hid (Blk (w.alloc (Obj.cells (rarr ⟨KA, kn, kc, CA, cn, cc⟩ R) 45)) w.heap.size 45 (rarr ⟨KA, kn, kc, CA, cn, cc⟩ R)) := Blk.new_at rfl
  have BE : Hid (Below w.heap.size w (w.alloc (Obj.cells (rarr ⟨KA, kn, kc, CA, cn, cc⟩ R) 45))) := (Below.refl _ _).alloc (Nat.le_refl _) _
  go_enter Tryz.func95, Tryz.ntmps95
  go_upto_region 1 with fail
  change (Code.region 1 _ _).wp _ _ _ (w.alloc (Obj.cells (rarr ⟨KA, kn, kc, CA, cn, cc⟩ R) 45))
  generalize w.alloc (Obj.cells (rarr ⟨KA, kn, kc, CA, cn, cc⟩ R) 45) = wa at *
  obtain ⟨q0, q1, q2, q3, q4, q5, qz⟩ := blk_ro B0.out
  simp only at q1 q5
  clear q0 q1 q2 q3 q4
  go_wp2_with fail
  go_loopw [5] (fun v wr => ∃ i : Nat, i ≤ cn ∧ v = .int .i64 i ∧ idxI (inB key) R.cs = idxFrom (inB key) (R.cs.drop i) i ∧ wr = wa) (fun v _ => cn - (intOf v).toNat)
  case atStart => exact ⟨0, Nat.zero_le _, rfl, rfl, rfl⟩
  case round =>
    obtain ⟨i, hi, rfl, ha, rfl⟩ := hrel
    have HA := Lib.hid ha
    clear ha
    by_cases hlt : i < cn
    · obtain ⟨b, off, x, hA, hb, hx, e0, e1, _, _, _⟩ := H.out.cs.sr.at5 hlt
      simp only at hA
      subst hA
      have HX := Lib.hid (idxFrom_at (p := inB key) hx)
      have g0 := (BE.out.cell (p := ⟨b, off + i * 5, none⟩) hb).trans e0
      have g1 := (BE.out.cell (p := ⟨b, off + i * 5 + 1, none⟩) hb).trans e1
      have HIN : Hid (inB key x = ((Op.bytesLess x.lo.toList key.toList || x.lo.toList == key.toList) && (x.hi.toList == [] || Op.bytesLess key.toList x.hi.toList))) := by rw [Hid, leq_lt]; rfl
      clear hx e0 e1
      cases h1 : Op.bytesLess x.lo.toList key.toList
      cases h2 : (x.lo.toList == key.toList)
      · have HF : Hid (idxI (inB key) R.cs = idxFrom (inB key) (R.cs.drop (i + 1)) (i + 1)) := by rw [Hid, HA.out, HX.out, HIN.out, h1, h2]; rfl
        go_wp2_with fail
        go_roundw
        case rel => exact ⟨i + 1, by omega, by go_num, HF.out, trivial⟩
        case measure => simp [intOf]; omega
      all_goals
        cases h3 : (x.hi.toList == [])
        cases h4 : Op.bytesLess key.toList x.hi.toList
        · have HF : Hid (idxI (inB key) R.cs = idxFrom (inB key) (R.cs.drop (i + 1)) (i + 1)) := by rw [Hid, HA.out, HX.out, HIN.out, h3, h4]; simp
          go_wp2_with fail
          go_roundw
          case rel => exact ⟨i + 1, by omega, by go_num, HF.out, trivial⟩
          case measure => simp [intOf]; omega
        · have HF : Hid (idxI (inB key) R.cs = (i : Int)) := by
            rw [Hid, HA.out, HX.out, HIN.out, h1, h3, h4]
            first | rfl | (rw [h2]; rfl)
          go_wp2_with fail
          go_ret
          exact ⟨by rw [HF.out]; rfl, BE.out⟩
        · have HF : Hid (idxI (inB key) R.cs = (i : Int)) := by
            rw [Hid, HA.out, HX.out, HIN.out, h1, h3]
            first | rfl | (rw [h2]; rfl)
          go_wp2_with fail
          go_ret
          exact ⟨by rw [HF.out]; rfl, BE.out⟩
    · have HF : Hid (idxI (inB key) R.cs = -1) := by rw [Hid, HA.out]; exact idxFrom_end (by have := hn.out; omega)
      go_wp2_with fail
      go_ret
      exact ⟨by rw [HF.out]; rfl, BE.out⟩

end Go.Proofs.YtblepmmibhphhaaGreatDoor

namespace Go.Proofs.YtblepmmibhphhaaGreatDoor
open Go.RowKit

/-- what replace hands back: the orders of the argument, and chunks in a row of its own -/
def RepOk (a : RA) (R : Ro) (cs : List Ch) (w : World) (e : Ending) (w' : World) : Prop :=
  ∃ (A : Option Addr) (c : Nat), e = .returned (rval ⟨a.KA, a.kn, a.kc, A, cs.length, c⟩ R.nx) ∧ w'.ownsRow w.heap.size 58 5 (.slice A cs.length c) cs.length (flat recC cs) ∧ Below w.heap.size w w'

/-- the state of replace's loop -/
structure Rpl (w : World) (a : RA) (R : Ro) (v : Value) (n : Nat) (cs : List Ch) (wr : World) : Prop where
  b0 : Blk wr w.heap.size 45 (rarr a R.nx)
  b1 : Blk wr (w.heap.size + 1) 45 (rarr RA.zero Ro.zero)
  own : wr.ownsRow (w.heap.size + 2) 58 5 v n (flat recC cs)
  bel : Below w.heap.size w wr
theorem Rpl.step {w wr w1 : World} {a : RA} {R : Ro} {v : Value} {n : Nat} {cs : List Ch} (h : Rpl w a R v n cs wr) (hb : Below wr.heap.size wr w1) : Rpl w a R v n cs w1 := ⟨h.b0.step hb, h.b1.step hb, own_step h.own hb, h.bel.step' hb⟩
theorem Rpl.grow {w wr w1 : World} {a : RA} {R : Ro} {v v' : Value} {n n' : Nat} {cs ds : List Ch} (h : Rpl w a R v n cs wr) (hg : wr.grownBy w1 v.ownBlock) (ho : w1.ownsRow (w.heap.size + 2) 58 5 v' n' (flat recC ds)) : Rpl w a R v' n' ds w1 := by
  have hge := own_ge h.own
  refine ⟨h.b0.grown hg (fun e => by have := hge _ e.symm; omega), h.b1.grown hg (fun e => by have := hge _ e.symm; omega), ho, h.bel.grown hg ?_ fun k hk => ?_⟩
  · have := h.b1.lt; omega
  · have := hge k hk; omega

set_option maxRecDepth 100000 in
set_option maxHeartbeats 1000000 in
theorem replace_any (R : Ro) (a : RA) (i n lb : Nat) (L : List Ch) (ia na : Int) (w : World) (h : RR w a R) (hL : Blk w lb 58 (flat recC L).toArray) (hin : i + n ≤ R.cs.length) (hn0 : 0 < n) (hm : L.length ≤ 2) (hz : R.cs.length ≤ 80) (hia : ia = (i : Nat)) (hna : na = (n : Nat)) :
    Calls Tryz.prog 64 #[rval a R, .int .i64 ia, .int .i64 na, .slice (some ⟨lb, 0, none⟩) L.length L.length] w (RepOk a R (repl R.cs i n (L.map (verC (nx R.ver)))) w) := by
  subst hia hna
  obtain ⟨KA, kn, kc, CA, cn, cc⟩ := a
  obtain ⟨j0, hj0, hy0, hy1, hy2⟩ := info_parts info_chunk
  have H := Lib.hid h
  have hn : Hid (cn = R.cs.length) := h.cs.ln
  have hcc : Hid (cn ≤ cc) := h.cs.sr.lc
  have HR := Lib.hid (h.cs.sr.reads recC_length (by omega))
  have HL := Lib.hid hL
  obtain ⟨m, hml⟩ : ∃ m, m = L.length := ⟨_, rfl⟩
  rw [← hml] at hm ⊢
  have HM := Lib.hid hml
  have hcn : cn ≤ 80 := by rw [hn.out]; exact hz
  have hicn : i + n ≤ cn := by rw [hn.out]; exact hin
  clear h hL hin hz hml
  have B0 : Hid (Blk ((w.alloc (Obj.cells (rarr ⟨KA, kn, kc, CA, cn, cc⟩ R) 45)).alloc (Obj.cells (rarr RA.zero Ro.zero) 45)) w.heap.size 45 (rarr ⟨KA, kn, kc, CA, cn, cc⟩ R)) := (Blk.new_at rfl).alloc _
  have B1 : Hid (Blk ((w.alloc (Obj.cells (rarr ⟨KA, kn, kc, CA, cn, cc⟩ R) 45)).alloc (Obj.cells (rarr RA.zero Ro.zero) 45)) (w.heap.size + 1) 45 (rarr RA.zero Ro.zero)) := Blk.new_at (by simp)
  have BE : Hid (Below w.heap.size w ((w.alloc (Obj.cells (rarr ⟨KA, kn, kc, CA, cn, cc⟩ R) 45)).alloc (Obj.cells (rarr RA.zero Ro.zero) 45))) := ((Below.refl _ _).alloc (Nat.le_refl _) _).alloc (by simp) _
  go_enter Tryz.func64, Tryz.ntmps64
  go_upto_region 1 with fail
  change (Code.region 1 _ _).wp _ _ _ ((w.alloc (Obj.cells (rarr ⟨KA, kn, kc, CA, cn, cc⟩ R) 45)).alloc (Obj.cells (rarr RA.zero Ro.zero) 45))
  generalize (w.alloc (Obj.cells (rarr ⟨KA, kn, kc, CA, cn, cc⟩ R) 45)).alloc (Obj.cells (rarr RA.zero Ro.zero) 45) = wa at *
  obtain ⟨q0, q1, q2, q3, q4, q5, qz⟩ := blk_ro B0.out
  simp only at q1 q5
  have I0 : Hid (Rpl w ⟨KA, kn, kc, CA, cn, cc⟩ R (.slice none 0 0) 0 [] (wa.setCell ⟨w.heap.size, 4, none⟩ (.int .i64 (nx R.ver)))) :=
    ⟨B0.out.set_ 4 _, B1.out.far (by show w.heap.size + 1 ≠ w.heap.size; omega) _, own_nil _ _ _ _, BE.out.setCell (Nat.le_refl _) _⟩
  go_upto_region 2 with fail
  clear q0 q1 q2 q3 q4 q5 qz B0 B1 BE
  change (Code.region 2 _ _).wp _ _ _ (wa.setCell ⟨w.heap.size, 4, none⟩ (.int .i64 (nx R.ver)))
  generalize wa.setCell ⟨w.heap.size, 4, none⟩ (.int .i64 (nx R.ver)) = w1 at *
  obtain ⟨q0, q1, q2, q3, q4, q5, qz⟩ := blk_ro I0.out.b0
  simp only at q1 q5
  have hiI : (i : Int) ≤ (cc : Int) := by have := hcc.out; omega
  have hiN : i ≤ cc := by have := hcc.out; omega
  have H1 := Lib.hid (flat_one recC_one (R.cs.take i))
  have HR1 : Hid (Reads w1 w.heap.size 5 CA i (flat recC (R.cs.take i))) := by
    have := (HR.out.below I0.out.bel).take (k := i) (by show i ≤ cn; omega)
    rw [flat_take recC_length] at this
    exact this
  have hsz1 : w.heap.size + 2 ≤ w1.heap.size := I0.out.b1.lt
  go_wp2_with (at_builtin; refine wpList_append_any _ rfl _ _ 43 rfl (w.heap.size + 2) 58 j0 (aggC Ch.zero) 5 56 Tryz.underlying43 hj0 hy0 hy1 hy2 rfl (by decide) (.slice none 0 0) 0 [] rfl I0.out.own w.heap.size CA i cc (flat recC (R.cs.take i)) rfl HR1.out H1.out (by unfold maxLen; omega) (by omega) hsz1 ?_)
  intro v' w2 hown2 hg2 _
  have htl : (R.cs.take i).length = i := by rw [List.length_take, Nat.min_eq_left (by have := hn.out; omega)]
  have I2 : Hid (Rpl w ⟨KA, kn, kc, CA, cn, cc⟩ R v' i (R.cs.take i) w2) := I0.out.grow hg2 (by simpa using hown2)
  obtain ⟨A2, c2, rfl, _⟩ := own_slice hown2
  clear q0 q1 q2 q3 q4 q5 qz I0 HR1 H1 hown2 hg2 hsz1
  go_wp2_with fail
  obtain ⟨wo, hwo⟩ : ∃ wo : World, wo = w2 := ⟨_, rfl⟩
  rw [← hwo] at I2 ⊢
  clear hwo
  go_loopw [10, 9] (fun v10 v9 wr => ∃ (k : Nat) (A : Option Addr) (c : Nat), k ≤ m ∧ v10 = .int .i64 k ∧ v9 = .slice A (i + k) c ∧ Rpl w ⟨KA, kn, kc, CA, cn, cc⟩ R (.slice A (i + k) c) (i + k) (R.cs.take i ++ (L.map (verC (nx R.ver))).take k) wr) (fun v _ _ => m - (intOf v).toNat)
  case atStart => exact ⟨0, A2, c2, Nat.zero_le _, rfl, rfl, by simpa using I2.out⟩
  case round =>
    obtain ⟨k, A, c, hk, rfl, rfl, I⟩ := hrel
    have J := Lib.hid I
    clear I2
    have hNl := I.b1.lt
    have hNl0 : w.heap.size < wr.heap.size := by omega
    by_cases hlt : k < m
    · obtain ⟨x, hx⟩ : ∃ x, L[k]? = some x := ⟨_, List.getElem?_eq_getElem (by rw [← HM.out]; exact hlt)⟩
      have HX := Lib.hid hx
      have hbl := I.bel
      have hlc : ∀ j v, (recC x)[j]? = some v → wr.cell? ⟨lb, k * 5 + j, none⟩ = some v := fun j v hv => by
        rw [(HL.out.step hbl).cell, List.getElem?_toArray]
        exact flat_get recC_length hx hv
      obtain ⟨xlo, xhi, xsh, xver, xju⟩ := x
      have g0 := hlc 0 _ rfl
      have g1 := hlc 1 _ rfl
      have g2 := hlc 2 _ rfl
      have g3 := hlc 3 _ rfl
      have g4 := hlc 4 _ rfl
      simp only [Nat.add_zero] at g0
      have q4 : wr.cell? ⟨w.heap.size, 4, none⟩ = some (.int .i64 (nx R.ver)) := (blk_ro I.b0).2.2.2.2.1
      have K := Lib.hid ((J.out.step ((Below.refl wr.heap.size wr).alloc (Nat.le_refl _) (Obj.cells #[.string xlo, .string xhi, .int .i64 xsh, .int .i64 (nx R.ver), .bool xju] 58))).step ((Below.refl _ _).alloc (Nat.le_refl _) (Obj.cells #[.string xlo, .string xhi, .int .i64 xsh, .int .i64 (nx R.ver), .bool xju] 58)))
      have HRx : Hid (Reads ((wr.alloc (Obj.cells #[.string xlo, .string xhi, .int .i64 xsh, .int .i64 (nx R.ver), .bool xju] 58)).alloc (Obj.cells #[.string xlo, .string xhi, .int .i64 xsh, .int .i64 (nx R.ver), .bool xju] 58)) (wr.heap.size + 2) 5 (some ⟨wr.heap.size + 1, 0, none⟩) 1 (recC ⟨xlo, xhi, xsh, nx R.ver, xju⟩)) := by
        refine ⟨rfl, fun _ => ⟨_, rfl, by show wr.heap.size + 1 < wr.heap.size + 2; omega, fun j u hu => ?_⟩⟩
        have := news_at (wr.alloc (Obj.cells #[.string xlo, .string xhi, .int .i64 xsh, .int .i64 (nx R.ver), .bool xju] 58)) 58 (recC ⟨xlo, xhi, xsh, nx R.ver, xju⟩) j u hu
        rw [size_alloc] at this
        exact this
      have hik : i + k ≤ 82 := by omega
      have H1x := Lib.hid (recC_one ⟨xlo, xhi, xsh, nx R.ver, xju⟩)
      clear hx hlc hbl I
      go_wp2_with (at_builtin; refine wpList_append_any _ rfl _ _ 43 rfl (w.heap.size + 2) 58 j0 (aggC Ch.zero) 5 56 Tryz.underlying43 hj0 hy0 hy1 hy2 rfl (by decide) (.slice A (i + k) c) (i + k) (flat recC (R.cs.take i ++ (L.map (verC (nx R.ver))).take k)) rfl K.out.own (wr.heap.size + 2) (some ⟨wr.heap.size + 1, 0, none⟩) 1 1 (recC ⟨xlo, xhi, xsh, nx R.ver, xju⟩) rfl HRx.out H1x.out (by unfold maxLen; omega) (by omega) (by simp; omega) ?_)
      intro v' w4 hown4 hg4 _
      have K4 : Hid (Rpl w ⟨KA, kn, kc, CA, cn, cc⟩ R v' (i + (k + 1)) (R.cs.take i ++ (L.map (verC (nx R.ver))).take (k + 1)) w4) := by
        refine K.out.grow hg4 ?_
        rw [List.take_add_one, List.getElem?_map, HX.out, Option.map_some, Option.toList_some, ← List.append_assoc, flat_snoc]
        exact hown4
      obtain ⟨A4, c4, rfl, _⟩ := own_slice hown4
      clear K HRx H1x hown4 hg4 g0 g1 g2 g3 g4 q4
      go_wp2_with fail
      go_roundw
      case rel => exact ⟨k + 1, A4, c4, by omega, by go_num, rfl, K4.out⟩
      case measure => simp [intOf]; omega
    · obtain rfl : k = m := by omega
      obtain ⟨b, off, hA, hbw, _⟩ := H.out.cs.sr.el (by show 0 < cn; omega)
      simp only at hA
      subst hA
      have q5 : wr.cell? ⟨w.heap.size, 5, none⟩ = some (.slice (some ⟨b, off, none⟩) cn cc) := (blk_ro I.b0).2.2.2.2.2.1
      have e1 : IntKind.i64.wrap ((i : Int) + (n : Int)) = ((i + n : Nat) : Int) := by rw [IntKind.wrap_i64]; omega
      have e2 : (0 : Int) ≤ (i : Int) + (n : Int) := by omega
      have e3 : (i : Int) + (n : Int) ≤ (cn : Int) := by omega
      have e4 : ((i : Int) + (n : Int)).toNat = i + n := by omega
      have e5 : ((i + n : Nat) : Int) = (i : Int) + (n : Int) := by omega
      rw [e5] at e1
      obtain ⟨A2', hA2, HR2⟩ : ∃ A2' : Addr, (if cc = i + n then some (⟨b, off, none⟩ : Addr) else some ⟨b, off + (i + n) * 5, none⟩) = some A2' ∧ Hid (Reads wr w.heap.size 5 (some A2') (cn - (i + n)) (flat recC (R.cs.drop (i + n)))) := by
        have hcut := (HR.out.below I.bel).cut (k := i + n) (by omega) hcc.out
        rw [flat_drop recC_length] at hcut
        by_cases hq : cc = i + n
        · rw [if_pos hq] at hcut ⊢
          exact ⟨_, rfl, hcut⟩
        · rw [if_neg hq] at hcut ⊢
          exact ⟨_, rfl, by rw [Hid]; simpa [addr_add] using hcut⟩
      have HFL := Lib.hid (flat_one recC_one (R.cs.drop (i + n)))
      have hszr : w.heap.size + 2 ≤ wr.heap.size := by omega
      have hik : i + k ≤ 82 := by omega
      clear I
      go_wp2_with (at_builtin; (first | rw [hA2] | skip); refine wpList_append_any _ rfl _ _ 43 rfl (w.heap.size + 2) 58 j0 (aggC Ch.zero) 5 56 Tryz.underlying43 hj0 hy0 hy1 hy2 rfl (by decide) (.slice A (i + k) c) (i + k) (flat recC (R.cs.take i ++ (L.map (verC (nx R.ver))).take k)) rfl J.out.own w.heap.size (some A2') (cn - (i + n)) (cc - (i + n)) (flat recC (R.cs.drop (i + n))) rfl HR2.out HFL.out (by unfold maxLen; omega) (by omega) hszr ?_)
      intro v' w5 hown5 hg5 _
      have hML : (L.map (verC (nx R.ver))).take k = L.map (verC (nx R.ver)) := List.take_of_length_le (by rw [List.length_map, ← HM.out]; exact Nat.le_refl _)
      have hlen : (repl R.cs i n (L.map (verC (nx R.ver)))).length = i + k + (cn - (i + n)) := by
        unfold repl
        rw [List.length_append, List.length_append, List.length_take, List.length_map, List.length_drop, ← hn.out, ← HM.out, Nat.min_eq_left (by omega)]
      rw [← flat_append, hML] at hown5
      have J5 : Hid (Rpl w ⟨KA, kn, kc, some ⟨b, off, none⟩, cn, cc⟩ R v' (i + k + (cn - (i + n))) (repl R.cs i n (L.map (verC (nx R.ver)))) w5) := J.out.grow hg5 hown5
      obtain ⟨A5, c5, rfl, _⟩ := own_slice hown5
      rw [← hlen] at J5 ⊢
      clear hown5 hg5 J HR2 HFL q5 hA2 e1 e2 e3 e4 e5
      generalize repl R.cs i n (L.map (verC (nx R.ver))) = Z at *
      obtain ⟨q0, q1, q2, q3, q4, q5, qz⟩ := blk_ro J5.out.b0
      simp only at q1 q5
      have hge := own_ge J5.out.own
      have G0 : Hid (Blk (w5.setCell ⟨w.heap.size, 5, none⟩ (.slice A5 Z.length c5)) w.heap.size 45 (rarr ⟨KA, kn, kc, A5, Z.length, c5⟩ R.nx)) := J5.out.b0.set_ 5 _
      have G1 : Hid (Blk (w5.setCell ⟨w.heap.size, 5, none⟩ (.slice A5 Z.length c5)) (w.heap.size + 1) 45 (rarr RA.zero Ro.zero)) := J5.out.b1.far (by show w.heap.size + 1 ≠ w.heap.size; omega) _
      have G2 := Lib.hid (own_far J5.out.own (p := ⟨w.heap.size, 5, none⟩) (fun e => by have := hge _ e; simp only at this; omega) (.slice A5 Z.length c5))
      have G4 : Hid (Below w.heap.size w (w5.setCell ⟨w.heap.size, 5, none⟩ (.slice A5 Z.length c5))) := J5.out.bel.setCell (Nat.le_refl _) _
      clear hge J5 hlen hML
      go_upto_region 11 with fail
      clear q0 q1 q2 q3 q4 q5 qz
      generalize w5.setCell ⟨w.heap.size, 5, none⟩ (.slice A5 Z.length c5) = w6 at *
      obtain ⟨q0, q1, q2, q3, q4, q5, qz⟩ := blk_ro G0.out
      simp only at q1 q5
      obtain ⟨r0, r1, r2, r3, r4, r5, rz⟩ := blk_ro G1.out
      have E0 := Lib.hid (G1.out.putR (a := ⟨KA, kn, kc, A5, Z.length, c5⟩) (R := R.nx))
      have E1 : Hid ((setR w6 (w.heap.size + 1) ⟨KA, kn, kc, A5, Z.length, c5⟩ R.nx).ownsRow w.heap.size 58 5 (.slice A5 Z.length c5) Z.length (flat recC Z)) :=
        own_mono (own_keep G2.out fun g hg => heap_setR _ _ _ _ g (by have := own_ge G2.out g hg; omega)) (by omega)
      have E2 : Hid (Below w.heap.size w (setR w6 (w.heap.size + 1) ⟨KA, kn, kc, A5, Z.length, c5⟩ R.nx)) := below_setR G4.out (by omega) _ _
      clear G0 G1 G2 G4
      go_wp2_with fail
      clear q0 q1 q2 q3 q4 q5 qz r0 r1 r2 r3 r4 r5 rz
      refine bodyPost_ret (results_ro rfl _ (w.heap.size + 1) rfl _ ⟨KA, kn, kc, A5, Z.length, c5⟩ R.nx E0.out) rfl ?_
      exact ⟨A5, c5, rfl, E1.out, E2.out⟩

end Go.Proofs.YtblepmmibhphhaaGreatDoor

namespace Go.Proofs.YtblepmmibhphhaaGreatDoor
open Go.RowKit

theorem repl_len' {α : Type} {l : List α} {i n : Nat} {new : List α} : (repl l i n new).length ≤ l.length + new.length + l.length := by unfold repl; simp; omega

end Go.Proofs.YtblepmmibhphhaaGreatDoor

namespace Go.Proofs.YtblepmmibhphhaaGreatDoor
open Go.RowKit

end Go.Proofs.YtblepmmibhphhaaGreatDoor

namespace Go.Proofs.YtblepmmibhphhaaGreatDoor
open Go.RowKit

end Go.Proofs.YtblepmmibhphhaaGreatDoor

namespace Go.Proofs.YtblepmmibhphhaaGreatDoor
open Go.RowKit

set_option maxRecDepth 100000 in
set_option maxHeartbeats 800000 in
theorem rgive_any (R : Ro) (a : RA) (key : ByteArray) (z : Int) (w : World) (h : RR w a R) (h80 : R.cs.length ≤ 80) : Calls Tryz.prog 32 #[rval a R, .string key, .int .i64 z] w (RouOk (giveR R key z) w) := by
  obtain ⟨KA, kn, kc, CA, cn, cc⟩ := a
  have H := Lib.hid h
  clear h
  have B0 : Hid (Blk ((w.alloc (Obj.cells (rarr ⟨KA, kn, kc, CA, cn, cc⟩ R) 45)).alloc (Obj.cells (rarr RA.zero Ro.zero) 45)) w.heap.size 45 (rarr ⟨KA, kn, kc, CA, cn, cc⟩ R)) := (Blk.new_at rfl).alloc _
  have B1 : Hid (Blk ((w.alloc (Obj.cells (rarr ⟨KA, kn, kc, CA, cn, cc⟩ R) 45)).alloc (Obj.cells (rarr RA.zero Ro.zero) 45)) (w.heap.size + 1) 45 (rarr RA.zero Ro.zero)) := Blk.new_at (by simp)
  have BE : Hid (Below w.heap.size w ((w.alloc (Obj.cells (rarr ⟨KA, kn, kc, CA, cn, cc⟩ R) 45)).alloc (Obj.cells (rarr RA.zero Ro.zero) 45))) := ((Below.refl _ _).alloc (Nat.le_refl _) _).alloc (by simp) _
  go_enter Tryz.func32, Tryz.ntmps32
  go_upto_region 1 with fail
  change (Code.region 1 _ _).wp _ _ _ ((w.alloc (Obj.cells (rarr ⟨KA, kn, kc, CA, cn, cc⟩ R) 45)).alloc (Obj.cells (rarr RA.zero Ro.zero) 45))
  generalize (w.alloc (Obj.cells (rarr ⟨KA, kn, kc, CA, cn, cc⟩ R) 45)).alloc (Obj.cells (rarr RA.zero Ro.zero) 45) = wa at *
  obtain ⟨q0, q1, q2, q3, q4, q5, qz⟩ := blk_ro B0.out
  simp only at q1 q5
  go_wp2_with fail
  clear q0 q1 q2 q3 q4 q5 qz
  refine (rbegin_any R ⟨KA, kn, kc, CA, cn, cc⟩ key wa (H.out.step BE.out)).mono ?_
  rintro e w2 ⟨rfl, hb1⟩
  have F0 := Lib.hid (B0.out.step hb1)
  have F1 := Lib.hid (B1.out.step hb1)
  have FE := Lib.hid (BE.out.step' hb1)
  clear hb1 B0 B1 BE
  rcases idxI_range (begB key) R.cs with ⟨hf, _⟩ | ⟨i, c, hf, hic, hin, _⟩
  · rw [hf]
    have HVE : Hid (giveR R key z = (Ro.zero, 15)) := by unfold Hid giveR; rw [hf]; rfl
    obtain ⟨r0, r1, r2, r3, r4, r5, rz⟩ := blk_ro F1.out
    have E := Lib.hid (change_err 15 F1.out (by omega) FE.out)
    go_wp2_with fail
    refine bodyPost_ret (results_ro_err rfl _ (w.heap.size + 1) rfl _ rfl _ RA.zero Ro.zero E.out.2) rfl ?_
    exact E.out.1.eq HVE.out
  rw [hf]
  have HV : Hid (giveR R key z = if z < 0 ∨ 8 ≤ z then (Ro.zero, 1) else if c.sh = z ∨ c.ju = true then (Ro.zero, 23) else (⟨R.sp, R.ks, R.ha, R.ep, nx R.ver, touch (repl R.cs i 1 [⟨c.lo, c.hi, z, nx R.ver, c.ju⟩]) c.sh (nx R.ver)⟩, 0)) := by
    unfold Hid giveR
    rw [if_neg (by omega), hf, Int.toNat_natCast, hic]
  have hn : Hid (cn = R.cs.length) := H.out.cs.ln
  have HIC := Lib.hid hic
  clear hic hin hf
  obtain ⟨q0, q1, q2, q3, q4, q5, qz⟩ := blk_ro F0.out
  simp only at q1 q5
  have hicn : i < cn := by rw [hn.out]; exact (List.getElem?_eq_some_iff.1 HIC.out).1
  have hnk : Hid (i + 1 ≤ R.cs.length) := (List.getElem?_eq_some_iff.1 HIC.out).1
  obtain ⟨b, off, x, hA, hbl, hx, e0, e1, e2, e3, e4⟩ := H.out.cs.sr.at5 hicn
  rw [HIC.out] at hx
  injection hx with hx
  subst hx
  simp only at hA
  subst hA
  have bc := fun o => FE.out.cell (p := ⟨b, o, none⟩) hbl
  replace e0 := (bc _).trans e0
  replace e1 := (bc _).trans e1
  replace e2 := (bc _).trans e2
  replace e3 := (bc _).trans e3
  replace e4 := (bc _).trans e4
  clear bc
  obtain ⟨clo, chi, csh, cver, cju⟩ := c
  simp only at e0 e1 e2 e3 e4 HV
  by_cases hz0 : z < 0
  · have HVE : Hid (giveR R key z = (Ro.zero, 1)) := by rw [Hid, HV.out, if_pos (.inl hz0)]
    obtain ⟨r0, r1, r2, r3, r4, r5, rz⟩ := blk_ro F1.out
    have E := Lib.hid (change_err 1 F1.out (by omega) FE.out)
    go_wp2_with fail
    refine bodyPost_ret (results_ro_err rfl _ (w.heap.size + 1) rfl _ rfl _ RA.zero Ro.zero E.out.2) rfl ?_
    exact E.out.1.eq HVE.out
  by_cases hz8 : 8 ≤ z
  · have HVE : Hid (giveR R key z = (Ro.zero, 1)) := by rw [Hid, HV.out, if_pos (.inr hz8)]
    obtain ⟨r0, r1, r2, r3, r4, r5, rz⟩ := blk_ro F1.out
    have E := Lib.hid (change_err 1 F1.out (by omega) FE.out)
    go_wp2_with fail
    refine bodyPost_ret (results_ro_err rfl _ (w.heap.size + 1) rfl _ rfl _ RA.zero Ro.zero E.out.2) rfl ?_
    exact E.out.1.eq HVE.out
  cases hsz : (csh == z)
  rotate_left
  · have HVE : Hid (giveR R key z = (Ro.zero, 23)) := by rw [Hid, HV.out, if_neg (by omega), if_pos (.inl (by simpa using hsz))]
    go_upto_region 9 with fail
    clear q0 q1 q2 q3 q4 q5 qz e0 e1 e2 e3 e4
    have hU : w.heap.size + 1 < w2.heap.size := F1.out.lt
    have P0 := Lib.hid (F0.out.alloc (Obj.cells #[.string clo, .string chi, .int .i64 csh, .int .i64 cver, .bool cju] 58))
    have P1 := Lib.hid (F1.out.alloc (Obj.cells #[.string clo, .string chi, .int .i64 csh, .int .i64 cver, .bool cju] 58))
    have PE := Lib.hid (FE.out.alloc FE.out.size (Obj.cells #[.string clo, .string chi, .int .i64 csh, .int .i64 cver, .bool cju] 58))
    have PC : Hid (Blk (w2.alloc (Obj.cells #[.string clo, .string chi, .int .i64 csh, .int .i64 cver, .bool cju] 58)) w2.heap.size 58 #[.string clo, .string chi, .int .i64 csh, .int .i64 cver, .bool cju]) := Blk.new_at rfl
    change (Code.region 9 _ _).wp _ _ _ (w2.alloc (Obj.cells #[.string clo, .string chi, .int .i64 csh, .int .i64 cver, .bool cju] 58))
    generalize w2.alloc (Obj.cells #[.string clo, .string chi, .int .i64 csh, .int .i64 cver, .bool cju] 58) = w3 at *
    generalize w2.heap.size = U at *
    have u0 := PC.out.cell 0
    have u1 := PC.out.cell 1
    have u2 := PC.out.cell 2
    have u3 := PC.out.cell 3
    have u4 := PC.out.cell 4
    simp at u0 u1 u2 u3 u4
    obtain ⟨r0, r1, r2, r3, r4, r5, rz⟩ := blk_ro P1.out
    have E := Lib.hid (change_err 23 P1.out (by omega) PE.out)
    go_wp2_with fail
    refine bodyPost_ret (results_ro_err rfl _ (w.heap.size + 1) rfl _ rfl _ RA.zero Ro.zero E.out.2) rfl ?_
    exact E.out.1.eq HVE.out
  cases cju
  rotate_left
  · have HVE : Hid (giveR R key z = (Ro.zero, 23)) := by rw [Hid, HV.out, if_neg (by omega), if_pos (.inr rfl)]
    go_upto_region 9 with fail
    clear q0 q1 q2 q3 q4 q5 qz e0 e1 e2 e3 e4
    have hU : w.heap.size + 1 < w2.heap.size := F1.out.lt
    have P0 := Lib.hid (F0.out.alloc (Obj.cells #[.string clo, .string chi, .int .i64 csh, .int .i64 cver, .bool true] 58))
    have P1 := Lib.hid (F1.out.alloc (Obj.cells #[.string clo, .string chi, .int .i64 csh, .int .i64 cver, .bool true] 58))
    have PE := Lib.hid (FE.out.alloc FE.out.size (Obj.cells #[.string clo, .string chi, .int .i64 csh, .int .i64 cver, .bool true] 58))
    have PC : Hid (Blk (w2.alloc (Obj.cells #[.string clo, .string chi, .int .i64 csh, .int .i64 cver, .bool true] 58)) w2.heap.size 58 #[.string clo, .string chi, .int .i64 csh, .int .i64 cver, .bool true]) := Blk.new_at rfl
    change (Code.region 9 _ _).wp _ _ _ (w2.alloc (Obj.cells #[.string clo, .string chi, .int .i64 csh, .int .i64 cver, .bool true] 58))
    generalize w2.alloc (Obj.cells #[.string clo, .string chi, .int .i64 csh, .int .i64 cver, .bool true] 58) = w3 at *
    generalize w2.heap.size = U at *
    have u0 := PC.out.cell 0
    have u1 := PC.out.cell 1
    have u2 := PC.out.cell 2
    have u3 := PC.out.cell 3
    have u4 := PC.out.cell 4
    simp at u0 u1 u2 u3 u4
    obtain ⟨r0, r1, r2, r3, r4, r5, rz⟩ := blk_ro P1.out
    have E := Lib.hid (change_err 23 P1.out (by omega) PE.out)
    go_wp2_with fail
    refine bodyPost_ret (results_ro_err rfl _ (w.heap.size + 1) rfl _ rfl _ RA.zero Ro.zero E.out.2) rfl ?_
    exact E.out.1.eq HVE.out
  have HVS : Hid (giveR R key z = (⟨R.sp, R.ks, R.ha, R.ep, nx R.ver, touch (repl R.cs i 1 [⟨clo, chi, z, nx R.ver, false⟩]) csh (nx R.ver)⟩, 0)) := by
    rw [Hid, HV.out, if_neg (by omega), if_neg (by simpa using hsz)]
  go_upto_region 11 with fail
  clear q0 q1 q2 q3 q4 q5 qz e0 e1 e2 e3 e4
  have hU : w.heap.size + 1 < w2.heap.size := F1.out.lt
  have P0 := Lib.hid (F0.out.alloc (Obj.cells #[.string clo, .string chi, .int .i64 z, .int .i64 cver, .bool false] 58))
  have P1 := Lib.hid (F1.out.alloc (Obj.cells #[.string clo, .string chi, .int .i64 z, .int .i64 cver, .bool false] 58))
  have PE := Lib.hid (FE.out.alloc FE.out.size (Obj.cells #[.string clo, .string chi, .int .i64 z, .int .i64 cver, .bool false] 58))
  have PC : Hid (Blk (w2.alloc (Obj.cells #[.string clo, .string chi, .int .i64 z, .int .i64 cver, .bool false] 58)) w2.heap.size 58 #[.string clo, .string chi, .int .i64 z, .int .i64 cver, .bool false]) := Blk.new_at rfl
  change (Code.region 11 _ _).wp _ _ _ (w2.alloc (Obj.cells #[.string clo, .string chi, .int .i64 z, .int .i64 cver, .bool false] 58))
  generalize w2.alloc (Obj.cells #[.string clo, .string chi, .int .i64 z, .int .i64 cver, .bool false] 58) = w3 at *
  generalize w2.heap.size = U at *
  have u0 := PC.out.cell 0
  have u1 := PC.out.cell 1
  have u2 := PC.out.cell 2
  have u3 := PC.out.cell 3
  have u4 := PC.out.cell 4
  simp at u0 u1 u2 u3 u4
  obtain ⟨q0, q1, q2, q3, q4, q5, qz⟩ := blk_ro P0.out
  simp only at q1 q5
  have AL := Lib.hid ((Below.refl w3.heap.size w3).alloc (Nat.le_refl _) (Obj.cells #[.string clo, .string chi, .int .i64 z, .int .i64 cver, .bool false] 58))
  have HLB : Hid (Blk (w3.alloc (Obj.cells #[.string clo, .string chi, .int .i64 z, .int .i64 cver, .bool false] 58)) w3.heap.size 58 (flat recC [⟨clo, chi, z, cver, false⟩]).toArray) := Blk.new_at rfl
  have G0 := Lib.hid (P0.out.step AL.out)
  have G1 := Lib.hid (P1.out.step AL.out)
  have GE := Lib.hid (PE.out.step' AL.out)
  have HRP := Lib.hid (replace_any R ⟨KA, kn, kc, some ⟨b, off, none⟩, cn, cc⟩ i 1 w3.heap.size [⟨clo, chi, z, cver, false⟩] (i : Nat) (1 : Nat) (w3.alloc (Obj.cells #[.string clo, .string chi, .int .i64 z, .int .i64 cver, .bool false] 58)) (H.out.step GE.out) HLB.out hnk.out (by decide) (by simp) h80 rfl rfl)
  clear AL HLB
  go_wp2_with fail
  clear q0 q1 q2 q3 q4 q5 qz u0 u1 u2 u3 u4
  refine HRP.out.mono ?_
  rintro e w5 ⟨A5, c5, rfl, hown, hb5⟩
  have hG1 := G1.out.lt
  have hlen : (repl R.cs i 1 [⟨clo, chi, z, nx R.ver, false⟩]).length * 56 ≤ reach := by
    have hrl := repl_len' (l := R.cs) (i := i) (n := 1) (new := [⟨clo, chi, z, nx R.ver, false⟩])
    unfold reach
    simp only [List.length_cons, List.length_nil] at hrl
    omega
  replace hown : w5.ownsRow (w3.alloc (Obj.cells #[.string clo, .string chi, .int .i64 z, .int .i64 cver, .bool false] 58)).heap.size 58 5 (.slice A5 (repl R.cs i 1 [⟨clo, chi, z, nx R.ver, false⟩]).length c5) (repl R.cs i 1 [⟨clo, chi, z, nx R.ver, false⟩]).length (flat recC (repl R.cs i 1 [⟨clo, chi, z, nx R.ver, false⟩])) := hown
  have hvt : Vr w.heap.size (w3.alloc (Obj.cells #[.string clo, .string chi, .int .i64 z, .int .i64 cver, .bool false] 58)).heap.size w5.heap.size w.heap.size w ⟨KA, kn, kc, A5, (repl R.cs i 1 [⟨clo, chi, z, nx R.ver, false⟩]).length, c5⟩ R.nx (repl R.cs i 1 [⟨clo, chi, z, nx R.ver, false⟩]) (setR w5 w.heap.size ⟨KA, kn, kc, A5, (repl R.cs i 1 [⟨clo, chi, z, nx R.ver, false⟩]).length, c5⟩ R.nx) := by
    have hge := own_ge hown
    refine ⟨(G0.out.step hb5).putR, own_keep hown fun g hg => heap_setR _ _ _ _ g (by have := hge g hg; omega), fun g hg => own_lt hown hg, ?_, rfl, hlen, below_setR (GE.out.step' hb5) (Nat.le_refl _) _ _, ⟨Nat.le_refl _, by omega, hb5.size, by rw [size_setR]; exact Nat.le_refl _⟩⟩
    refine ((H.out.ks.toB (GE.out.step' hb5)).lt).keep (by rw [size_setR]; exact Nat.le_refl _) fun b hF _ => ⟨⟨⟨.inl hF.1, hF.2⟩, fun e => by have := hge b e; omega⟩, heap_setR _ _ _ _ b (by omega)⟩
  have V0 := Lib.hid hvt
  have V1 : Hid (Blk (setR w5 w.heap.size ⟨KA, kn, kc, A5, (repl R.cs i 1 [⟨clo, chi, z, nx R.ver, false⟩]).length, c5⟩ R.nx) (w.heap.size + 1) 45 (rarr RA.zero Ro.zero)) := (heap_setR _ _ _ _ _ (by omega)).trans (G1.out.step hb5)
  obtain ⟨q0, q1, q2, q3, q4, q5, qz⟩ := blk_ro (G0.out.step hb5)
  simp only at q1 q5
  have HLO : Hid (w.heap.size + 1 < (w3.alloc (Obj.cells #[.string clo, .string chi, .int .i64 z, .int .i64 cver, .bool false] 58)).heap.size) := hG1
  have HLN := Lib.hid hlen
  obtain ⟨S, hS⟩ : ∃ S, S = R.nx := ⟨_, rfl⟩
  have HVT : Hid (giveR R key z = (⟨S.sp, S.ks, S.ha, S.ep, S.ver, touch (repl R.cs i 1 [⟨clo, chi, z, nx R.ver, false⟩]) csh S.ver⟩, 0)) := by rw [Hid, HVS.out, hS]; rfl
  have hsp : Hid (S.sp.size ≤ reach) := by rw [Hid, hS]; exact H.out.sp
  rw [← hS] at V0 V1 ⊢
  clear hown hb5 G0 G1 GE HRP hvt hlen hG1 hS HVS HV
  rw [show List.map (verC (nx R.ver)) [(⟨clo, chi, z, cver, false⟩ : Ch)] = [⟨clo, chi, z, nx R.ver, false⟩] from rfl]
  obtain ⟨Lc, hLc⟩ : ∃ Lc, Lc = repl R.cs i 1 [⟨clo, chi, z, nx R.ver, false⟩] := ⟨_, rfl⟩
  rw [← hLc] at V0 V1 HVT HLN ⊢
  clear hLc
  generalize (w3.alloc (Obj.cells #[.string clo, .string chi, .int .i64 z, .int .i64 cver, .bool false] 58)).heap.size = lo at *
  go_upto_region 12 with fail
  clear q0 q1 q2 q3 q4 q5 qz
  change (Code.region 12 _ _).wp _ _ _ (setR w5 w.heap.size ⟨KA, kn, kc, A5, Lc.length, c5⟩ S)
  generalize setR w5 w.heap.size ⟨KA, kn, kc, A5, Lc.length, c5⟩ S = w6 at *
  obtain ⟨ln5, hln5⟩ : ∃ ln5, ln5 = Lc.length := ⟨_, rfl⟩
  rw [← hln5] at V0 HLN
  have HL5 := Lib.hid hln5
  clear hln5
  have hln6 : ln5 ≤ 140737488355328 := by have := HLN.out; unfold reach at this; omega
  go_wp2_with fail
  go_loopw [11] (fun v wr => ∃ k : Nat, k ≤ ln5 ∧ v = .int .i64 k ∧ idxI (shB csh) Lc = idxFrom (shB csh) (Lc.drop k) k ∧ wr = w6) (fun v _ => ln5 - (intOf v).toNat)
  case atStart => exact ⟨0, Nat.zero_le _, rfl, rfl, rfl⟩
  case round =>
    obtain ⟨k, hk, rfl, ha, rfl⟩ := hrel
    have HA := Lib.hid ha
    clear ha
    obtain ⟨q0, q1, q2, q3, q4, q5, qz⟩ := blk_ro V0.out.b0
    simp only at q1 q5
    by_cases hlt : k < ln5
    · obtain ⟨d, hd⟩ : ∃ d, Lc[k]? = some d := ⟨_, List.getElem?_eq_getElem (by rw [← HL5.out]; exact hlt)⟩
      have HK := Lib.hid hd
      have HX := Lib.hid (idxFrom_at (p := shB csh) hd)
      clear hd
      obtain ⟨dlo, dhi, dsh, dver, dju⟩ := d
      obtain ⟨g, hgA, hgl, hgh, hgc⟩ := V0.out.get HK.out
      simp only at hgA
      subst hgA
      have c2 := (hgc 2 _ rfl).1
      obtain ⟨c3, z3⟩ := hgc 3 _ rfl
      clear hgc
      cases hq : (dsh == csh)
      · have HF : Hid (idxI (shB csh) Lc = idxFrom (shB csh) (Lc.drop (k + 1)) (k + 1)) := by rw [Hid, HA.out, HX.out]; unfold shB; rw [hq]; rfl
        go_wp2_with fail
        go_roundw
        case rel => exact ⟨k + 1, by omega, by go_num, HF.out, trivial⟩
        case measure => simp [intOf]; omega
      · have HF : Hid (idxI (shB csh) Lc = (k : Int)) := by rw [Hid, HA.out, HX.out]; unfold shB; rw [hq]; rfl
        have HVU : Hid (giveR R key z = (⟨S.sp, S.ks, S.ha, S.ep, S.ver, Lc.set k ⟨dlo, dhi, dsh, S.ver, dju⟩⟩, 0)) := by
          rw [Hid, HVT.out]
          unfold touch
          rw [HF.out, if_neg (by omega), Int.toNat_natCast, HK.out]
        have Z0 := Lib.hid (V0.out.put (g := g) rfl HK.out (j := 3) (v := .int .i64 S.ver) (c' := ⟨dlo, dhi, dsh, S.ver, dju⟩) (by omega) rfl)
        have Z1 := Lib.hid (V1.out.far (p := ⟨g, k * 5 + 3, none⟩) (by show w.heap.size + 1 ≠ g; have := HLO.out; omega) (.int .i64 S.ver))
        go_upto_region 17 with fail
        clear q0 q1 q2 q3 q4 q5 qz c2 c3 z3 V0 V1
        generalize wr.setCell ⟨g, k * 5 + 3, none⟩ (.int .i64 S.ver) = w8 at *
        obtain ⟨q0, q1, q2, q3, q4, q5, qz⟩ := blk_ro Z0.out.b0
        simp only at q1 q5
        obtain ⟨r0, r1, r2, r3, r4, r5, rz⟩ := blk_ro Z1.out
        have E := Lib.hid (change_end (R := ⟨S.sp, S.ks, S.ha, S.ep, S.ver, Lc.set k ⟨dlo, dhi, dsh, S.ver, dju⟩⟩) (a := ⟨KA, kn, kc, some ⟨g, 0, none⟩, ln5, c5⟩) rfl Z1.out (by omega) (by have := HLO.out; omega) hsp.out (Z0.out.ks.keep (Nat.le_refl _) fun b hF _ => ⟨hF.1.1, rfl⟩) Z0.out.own Z0.out.ln Z0.out.sz Z0.out.bel)
        clear Z0 Z1
        go_wp2_with fail
        clear q0 q1 q2 q3 q4 q5 qz r0 r1 r2 r3 r4 r5 rz
        refine bodyPost_ret (results_ro_err rfl _ (w.heap.size + 1) rfl _ rfl _ ⟨KA, kn, kc, some ⟨g, 0, none⟩, ln5, c5⟩ _ E.out.2) rfl ?_
        exact E.out.1.eq HVU.out
    · have HF : Hid (idxI (shB csh) Lc = -1) := by rw [Hid, HA.out]; exact idxFrom_end (by rw [← HL5.out]; omega)
      have HVU : Hid (giveR R key z = (⟨S.sp, S.ks, S.ha, S.ep, S.ver, Lc⟩, 0)) := by
        rw [Hid, HVT.out]
        unfold touch
        rw [HF.out]
        rfl
      obtain ⟨r0, r1, r2, r3, r4, r5, rz⟩ := blk_ro V1.out
      have E := Lib.hid (change_end (R := ⟨S.sp, S.ks, S.ha, S.ep, S.ver, Lc⟩) (a := ⟨KA, kn, kc, A5, ln5, c5⟩) rfl V1.out (by omega) (by have := HLO.out; omega) hsp.out (V0.out.ks.keep (Nat.le_refl _) fun b hF _ => ⟨hF.1.1, rfl⟩) V0.out.own V0.out.ln V0.out.sz V0.out.bel)
      clear V0 V1
      go_wp2_with fail
      clear q0 q1 q2 q3 q4 q5 qz r0 r1 r2 r3 r4 r5 rz
      refine bodyPost_ret (results_ro_err rfl _ (w.heap.size + 1) rfl _ rfl _ ⟨KA, kn, kc, A5, ln5, c5⟩ _ E.out.2) rfl ?_
      exact E.out.1.eq HVU.out

end Go.Proofs.YtblepmmibhphhaaGreatDoor


/- The contracts of the router's Check, Owns, Route and of the reference's. -/
namespace Go.Proofs.YtblepmmibhphhaaGreatDoor
open Go.RowKit

/-- the version of a shard, as the reference finds it -/
def verQ (s : Int) (b : Int) (c : Ch) : Int := if c.sh = s ∧ b < c.ver then c.ver else b
def rverR (s : Int) (l : List Ch) : Int := l.foldl (verQ s) 0
theorem verQ_fold (s : Int) : ∀ (l : List Ch) (b : Int), b ≤ l.foldl (verQ s) b ∧ (∀ c ∈ l, c.sh = s → c.ver ≤ l.foldl (verQ s) b) ∧ (l.foldl (verQ s) b = b ∨ ∃ c ∈ l, c.sh = s ∧ l.foldl (verQ s) b = c.ver)
  | [], b => ⟨Int.le_refl _, fun c hc => by simp at hc, .inl rfl⟩
  | x :: r, b => by
    obtain ⟨h1, h2, h3⟩ := verQ_fold s r (verQ s b x)
    rw [List.foldl_cons]
    by_cases hx : x.sh = s ∧ b < x.ver
    · have e : verQ s b x = x.ver := if_pos hx
      rw [e] at h1 h2 h3 ⊢
      refine ⟨by omega, fun c hc hs => ?_, ?_⟩
      · rcases List.mem_cons.1 hc with rfl | hc
        · exact h1
        · exact h2 c hc hs
      · rcases h3 with h3 | ⟨c, hc, hs, hv⟩
        · exact .inr ⟨x, by simp, hx.1, h3⟩
        · exact .inr ⟨c, by simp [hc], hs, hv⟩
    · have e : verQ s b x = b := if_neg hx
      rw [e] at h1 h2 h3 ⊢
      refine ⟨h1, fun c hc hs => ?_, ?_⟩
      · rcases List.mem_cons.1 hc with rfl | hc
        · have : ¬ b < c.ver := fun h => hx ⟨hs, h⟩
          omega
        · exact h2 c hc hs
      · rcases h3 with h3 | ⟨c, hc, hs, hv⟩
        · exact .inl h3
        · exact .inr ⟨c, by simp [hc], hs, hv⟩
theorem rver_eq {s : Int} {l : List Ch} (h : ∀ c ∈ l, 1 ≤ c.ver) : rverR s l = verR s l := by
  obtain ⟨_, h1, h2⟩ := verQ_fold s l 0
  obtain ⟨h3, h4⟩ := verR_ways s l
  unfold rverR
  rcases h2 with h2 | ⟨c, hc, hs, hv⟩
  · rcases h4 with h4 | ⟨d, hd, hs', hv'⟩
    · rw [h2, h4]
    · have := h1 d hd hs'
      have := h d hd
      omega
  · have k1 := h3 c hc hs
    have k2 := h c hc
    rcases h4 with h4 | ⟨d, hd, hs', hv'⟩
    · omega
    · have := h1 d hd hs'
      omega

set_option maxRecDepth 100000 in
set_option maxHeartbeats 800000 in
theorem rversion_any (R : Ro) (a : RA) (s : Int) (w : World) (h : RR w a R) :
    Calls Tryz.prog 31 #[rval a R, .int .i64 s] w fun e w' => e = .returned (.int .i64 (rverR s R.cs)) ∧ Below w.heap.size w w' := by
  obtain ⟨KA, kn, kc, CA, cn, cc⟩ := a
  have H := Lib.hid h
  have hn : Hid (cn = R.cs.length) := h.cs.ln
  have hcz : cn * 56 ≤ reach := h.cs.sz
  have hkn : cn ≤ 140737488355328 := by unfold reach at hcz; omega
  clear h hcz
  have B0 : Hid (Blk (w.alloc (Obj.cells (rarr ⟨KA, kn, kc, CA, cn, cc⟩ R) 45)) w.heap.size 45 (rarr ⟨KA, kn, kc, CA, cn, cc⟩ R)) := Blk.new_at rfl
  have BE : Hid (Below w.heap.size w (w.alloc (Obj.cells (rarr ⟨KA, kn, kc, CA, cn, cc⟩ R) 45))) := (Below.refl _ _).alloc (Nat.le_refl _) _
  go_enter Tryz.func31, Tryz.ntmps31
  go_upto_region 3 with fail
  change Code.wp _ _ _ _ (w.alloc (Obj.cells (rarr ⟨KA, kn, kc, CA, cn, cc⟩ R) 45))
  generalize w.alloc (Obj.cells (rarr ⟨KA, kn, kc, CA, cn, cc⟩ R) 45) = wa at *
  obtain ⟨q0, q1, q2, q3, q4, q5, qz⟩ := blk_ro B0.out
  simp only at q1 q5
  clear q0 q1 q2 q3 q4
  go_loopw [5, 6] (fun v5 v6 wr => ∃ (i : Nat) (best : Int), i ≤ cn ∧ v6 = .int .i64 i ∧ v5 = .int .i64 best ∧ rverR s R.cs = (R.cs.drop i).foldl (verQ s) best ∧ wr = wa) (fun _ v6 _ => cn - (intOf v6).toNat)
  case atStart => exact ⟨0, 0, Nat.zero_le _, rfl, rfl, rfl, rfl⟩
  case round =>
    obtain ⟨i, best, hi, rfl, rfl, ha, rfl⟩ := hrel
    have HA := Lib.hid ha
    clear ha
    by_cases hlt : i < cn
    · obtain ⟨b, off, x, hA, hb, hx, e0, e1, e2, e3, e4⟩ := H.out.cs.sr.at5 hlt
      simp only at hA
      subst hA
      have HX : Hid ((R.cs.drop i).foldl (verQ s) best = (R.cs.drop (i + 1)).foldl (verQ s) (verQ s best x)) := by rw [Hid, drop_of hx]; rfl
      have g2 := (BE.out.cell (p := ⟨b, off + i * 5 + 2, none⟩) hb).trans e2
      have g3 := (BE.out.cell (p := ⟨b, off + i * 5 + 3, none⟩) hb).trans e3
      obtain ⟨xlo, xhi, xsh, xver, xju⟩ := x
      simp only at g2 g3
      clear hx e0 e1 e2 e3 e4
      by_cases hs : xsh = s
      · have hsb : (xsh == s) = true := by simpa using hs
        by_cases hv : best < xver
        · have HN : Hid (rverR s R.cs = (R.cs.drop (i + 1)).foldl (verQ s) xver) := by rw [Hid, HA.out, HX.out, verQ, if_pos ⟨hs, hv⟩]
          clear hs
          go_wp2_with fail
          go_roundw
          case rel => exact ⟨i + 1, xver, by omega, by go_num, rfl, HN.out, trivial⟩
          case measure => simp [intOf]; omega
        · have HN : Hid (rverR s R.cs = (R.cs.drop (i + 1)).foldl (verQ s) best) := by rw [Hid, HA.out, HX.out, verQ, if_neg fun h => hv h.2]
          clear hs
          go_wp2_with fail
          go_roundw
          case rel => exact ⟨i + 1, best, by omega, by go_num, rfl, HN.out, trivial⟩
          case measure => simp [intOf]; omega
      · have hsb : (xsh == s) = false := by simpa using hs
        have HN : Hid (rverR s R.cs = (R.cs.drop (i + 1)).foldl (verQ s) best) := by rw [Hid, HA.out, HX.out, verQ, if_neg fun h => hs h.1]
        clear hs
        go_wp2_with fail
        go_roundw
        case rel => exact ⟨i + 1, best, by omega, by go_num, rfl, HN.out, trivial⟩
        case measure => simp [intOf]; omega
    · have HF : Hid (rverR s R.cs = best) := by rw [Hid, HA.out, List.drop_of_length_le (by have := hn.out; omega)]; rfl
      go_wp2_with fail
      go_ret
      exact ⟨by rw [HF.out]; rfl, BE.out⟩

def chkE (R : Ro) (v : Int) (ep ver : Int) : Int := if ep = R.ep ∧ ver = v then 0 else 27

set_option maxRecDepth 100000 in
set_option maxHeartbeats 800000 in
theorem check_any (R : Ro) (a : RA) (s ep ver : Int) (w : World) (h : RR w a R) :
    Calls Tryz.prog 29 #[rval a R, .int .i64 s, .int .i64 ep, .int .i64 ver] w fun e w' => e = .returned (.int .i64 (chkE R (verR s R.cs) ep ver)) ∧ Below w.heap.size w w' := by
  have HV := Lib.hid fun (wr : World) (hb : Below w.heap.size w wr) => version_any R a s wr (h.step hb)
  obtain ⟨KA, kn, kc, CA, cn, cc⟩ := a
  clear h
  have B0 : Hid (Blk (w.alloc (Obj.cells (rarr ⟨KA, kn, kc, CA, cn, cc⟩ R) 45)) w.heap.size 45 (rarr ⟨KA, kn, kc, CA, cn, cc⟩ R)) := Blk.new_at rfl
  have BE : Hid (Below w.heap.size w (w.alloc (Obj.cells (rarr ⟨KA, kn, kc, CA, cn, cc⟩ R) 45))) := (Below.refl _ _).alloc (Nat.le_refl _) _
  obtain ⟨V, hV⟩ : ∃ V, V = verR s R.cs := ⟨_, rfl⟩
  rw [← hV] at HV ⊢
  clear hV
  go_enter Tryz.func29, Tryz.ntmps29
  go_upto_region 1 with fail
  change Code.wp _ _ _ _ (w.alloc (Obj.cells (rarr ⟨KA, kn, kc, CA, cn, cc⟩ R) 45))
  generalize w.alloc (Obj.cells (rarr ⟨KA, kn, kc, CA, cn, cc⟩ R) 45) = wa at *
  obtain ⟨q0, q1, q2, q3, q4, q5, qz⟩ := blk_ro B0.out
  simp only at q1 q5
  by_cases h1 : ep = R.ep
  · have h1b : (ep != R.ep) = false := by simpa using h1
    by_cases h2 : ver = V
    · have HE : Hid (chkE R V ep ver = 0) := if_pos ⟨h1, h2⟩
      have h2b : (ver != V) = false := by simpa using h2
      clear h1 h2
      go_wp2_with fail
      refine (HV.out wa BE.out).mono ?_
      rintro e w1 ⟨rfl, hb⟩
      have CE := Lib.hid (BE.out.step' hb)
      clear hb BE B0 HV q0 q1 q2 q3 q4 q5 qz
      go_wp2_with fail
      go_ret
      exact ⟨by rw [HE.out]; rfl, CE.out⟩
    · have HE : Hid (chkE R V ep ver = 27) := if_neg fun h => h2 h.2
      have h2b : (ver != V) = true := by simpa using h2
      clear h1 h2
      go_wp2_with fail
      refine (HV.out wa BE.out).mono ?_
      rintro e w1 ⟨rfl, hb⟩
      have CE := Lib.hid (BE.out.step' hb)
      clear hb BE B0 HV q0 q1 q2 q3 q4 q5 qz
      go_wp2_with fail
      go_ret
      exact ⟨by rw [HE.out]; rfl, CE.out⟩
  · have HE : Hid (chkE R V ep ver = 27) := if_neg fun h => h1 h.1
    have h1b : (ep != R.ep) = true := by simpa using h1
    clear h1
    go_wp2_with fail
    go_ret
    exact ⟨by rw [HE.out]; rfl, BE.out⟩

set_option maxRecDepth 100000 in
set_option maxHeartbeats 800000 in
theorem rcheck_any (R : Ro) (a : RA) (s ep ver : Int) (w : World) (h : RR w a R) :
    Calls Tryz.prog 30 #[rval a R, .int .i64 s, .int .i64 ep, .int .i64 ver] w fun e w' => e = .returned (.int .i64 (chkE R (rverR s R.cs) ep ver)) ∧ Below w.heap.size w w' := by
  have HV := Lib.hid fun (wr : World) (hb : Below w.heap.size w wr) => rversion_any R a s wr (h.step hb)
  obtain ⟨KA, kn, kc, CA, cn, cc⟩ := a
  clear h
  have B0 : Hid (Blk (w.alloc (Obj.cells (rarr ⟨KA, kn, kc, CA, cn, cc⟩ R) 45)) w.heap.size 45 (rarr ⟨KA, kn, kc, CA, cn, cc⟩ R)) := Blk.new_at rfl
  have BE : Hid (Below w.heap.size w (w.alloc (Obj.cells (rarr ⟨KA, kn, kc, CA, cn, cc⟩ R) 45))) := (Below.refl _ _).alloc (Nat.le_refl _) _
  obtain ⟨V, hV⟩ : ∃ V, V = rverR s R.cs := ⟨_, rfl⟩
  rw [← hV] at HV ⊢
  clear hV
  go_enter Tryz.func30, Tryz.ntmps30
  go_upto_region 1 with fail
  change Code.wp _ _ _ _ (w.alloc (Obj.cells (rarr ⟨KA, kn, kc, CA, cn, cc⟩ R) 45))
  generalize w.alloc (Obj.cells (rarr ⟨KA, kn, kc, CA, cn, cc⟩ R) 45) = wa at *
  obtain ⟨q0, q1, q2, q3, q4, q5, qz⟩ := blk_ro B0.out
  simp only at q1 q5
  by_cases h1 : ep = R.ep
  · have h1b : (ep != R.ep) = false := by simpa using h1
    by_cases h2 : ver = V
    · have HE : Hid (chkE R V ep ver = 0) := if_pos ⟨h1, h2⟩
      have h2b : (ver != V) = false := by simpa using h2
      clear h1 h2
      go_wp2_with fail
      refine (HV.out wa BE.out).mono ?_
      rintro e w1 ⟨rfl, hb⟩
      have CE := Lib.hid (BE.out.step' hb)
      clear hb BE B0 HV q0 q1 q2 q3 q4 q5 qz
      go_wp2_with fail
      go_ret
      exact ⟨by rw [HE.out]; rfl, CE.out⟩
    · have HE : Hid (chkE R V ep ver = 27) := if_neg fun h => h2 h.2
      have h2b : (ver != V) = true := by simpa using h2
      clear h1 h2
      go_wp2_with fail
      refine (HV.out wa BE.out).mono ?_
      rintro e w1 ⟨rfl, hb⟩
      have CE := Lib.hid (BE.out.step' hb)
      clear hb BE B0 HV q0 q1 q2 q3 q4 q5 qz
      go_wp2_with fail
      go_ret
      exact ⟨by rw [HE.out]; rfl, CE.out⟩
  · have HE : Hid (chkE R V ep ver = 27) := if_neg fun h => h1 h.1
    have h1b : (ep != R.ep) = true := by simpa using h1
    clear h1
    go_wp2_with fail
    go_ret
    exact ⟨by rw [HE.out]; rfl, BE.out⟩


/-- the shard of the chunk of a key -/
def ownC (R : Ro) (key : ByteArray) : Int := if idxI (inB key) R.cs < 0 then -1 else match R.cs[(idxI (inB key) R.cs).toNat]? with
  | none => -1
  | some c => c.sh
theorem own_ways (R : Ro) (key : ByteArray) : (idxI (inB key) R.cs = -1 ∧ ownC R key = -1) ∨ ∃ (i : Nat) (c : Ch), idxI (inB key) R.cs = (i : Nat) ∧ R.cs[i]? = some c ∧ inB key c = true ∧ ownC R key = c.sh := by
  rcases idxI_range (inB key) R.cs with ⟨h1, _⟩ | ⟨i, c, h1, h2, h3, _⟩
  · exact .inl ⟨h1, by unfold ownC; rw [h1]; rfl⟩
  · refine .inr ⟨i, c, h1, h2, h3, ?_⟩
    unfold ownC
    rw [h1, if_neg (by omega), Int.toNat_natCast, h2]
def ownsB (R : Ro) (s : Int) (key : ByteArray) : Bool := decide (0 ≤ idxI (inB key) R.cs) && (ownC R key == s)
def rownsB (R : Ro) (s : Int) (key : ByteArray) : Bool := decide (0 ≤ s) && (ownC R key == s)

set_option maxRecDepth 100000 in
set_option maxHeartbeats 800000 in
theorem owns_any (R : Ro) (a : RA) (s : Int) (key : ByteArray) (w : World) (h : RR w a R) :
    Calls Tryz.prog 24 #[rval a R, .int .i64 s, .string key] w fun e w' => e = .returned (.bool (ownsB R s key)) ∧ Below w.heap.size w w' := by
  have HV := Lib.hid fun (wr : World) (hb : Below w.heap.size w wr) => cfind_any R a key wr (h.step hb)
  obtain ⟨KA, kn, kc, CA, cn, cc⟩ := a
  have H := Lib.hid h
  have hn : Hid (cn = R.cs.length) := h.cs.ln
  have hcz : cn * 56 ≤ reach := h.cs.sz
  have hkn : cn ≤ 140737488355328 := by unfold reach at hcz; omega
  clear h hcz
  have B0 : Hid (Blk (w.alloc (Obj.cells (rarr ⟨KA, kn, kc, CA, cn, cc⟩ R) 45)) w.heap.size 45 (rarr ⟨KA, kn, kc, CA, cn, cc⟩ R)) := Blk.new_at rfl
  have BE : Hid (Below w.heap.size w (w.alloc (Obj.cells (rarr ⟨KA, kn, kc, CA, cn, cc⟩ R) 45))) := (Below.refl _ _).alloc (Nat.le_refl _) _
  go_enter Tryz.func24, Tryz.ntmps24
  go_upto_region 1 with fail
  change Code.wp _ _ _ _ (w.alloc (Obj.cells (rarr ⟨KA, kn, kc, CA, cn, cc⟩ R) 45))
  generalize w.alloc (Obj.cells (rarr ⟨KA, kn, kc, CA, cn, cc⟩ R) 45) = wa at *
  obtain ⟨q0, q1, q2, q3, q4, q5, qz⟩ := blk_ro B0.out
  simp only at q1 q5
  rcases own_ways R key with ⟨h1, h2⟩ | ⟨i, c, h1, hi, _, h2⟩
  · have HF : Hid (ownsB R s key = false) := by unfold Hid ownsB; rw [h1]; rfl
    rw [h1] at HV
    clear h1 h2
    go_wp2_with fail
    refine (HV.out wa BE.out).mono ?_
    rintro e w1 ⟨rfl, hb⟩
    have CE := Lib.hid (BE.out.step' hb)
    clear hb BE B0 HV q0 q1 q2 q3 q4 q5 qz
    go_wp2_with fail
    go_ret
    exact ⟨by rw [HF.out]; rfl, CE.out⟩
  · have HF : Hid (ownsB R s key = (c.sh == s)) := by unfold Hid ownsB; rw [h1, h2, decide_eq_true (by omega)]; rfl
    rw [h1] at HV
    clear h1 h2
    have hlt : i < cn := by have := (List.getElem?_eq_some_iff.1 hi).1; have := hn.out; omega
    go_wp2_with fail
    refine (HV.out wa BE.out).mono ?_
    rintro e w1 ⟨rfl, hb⟩
    have CE := Lib.hid (BE.out.step' hb)
    have C0 := Lib.hid (B0.out.step hb)
    clear hb BE B0 HV q0 q1 q2 q3 q4 q5 qz
    obtain ⟨q0, q1, q2, q3, q4, q5, qz⟩ := blk_ro C0.out
    simp only at q1 q5
    obtain ⟨b, off, x, hA, hb, hx, e0, e1, e2, e3, e4⟩ := H.out.cs.sr.at5 hlt
    simp only at hA
    subst hA
    obtain rfl : x = c := Option.some.inj (hx.symm.trans hi)
    have g2 := (CE.out.cell (p := ⟨b, off + i * 5 + 2, none⟩) hb).trans e2
    have i0' : (0 : Int) ≤ (i : Int) := by omega
    have i1' : (i : Int) < (cn : Int) := by omega
    clear hx hi e0 e1 e2 e3 e4 C0
    go_wp2_with fail
    go_ret
    exact ⟨by rw [HF.out]; rfl, CE.out⟩

set_option maxRecDepth 100000 in
set_option maxHeartbeats 800000 in
theorem rowner_any (R : Ro) (a : RA) (key : ByteArray) (w : World) (h : RR w a R) :
    Calls Tryz.prog 59 #[rval a R, .string key] w fun e w' => e = .returned (.int .i64 (ownC R key)) ∧ Below w.heap.size w w' := by
  have HV := Lib.hid fun (wr : World) (hb : Below w.heap.size w wr) => rfind_any R a key wr (h.step hb)
  obtain ⟨KA, kn, kc, CA, cn, cc⟩ := a
  have H := Lib.hid h
  have hn : Hid (cn = R.cs.length) := h.cs.ln
  have hcz : cn * 56 ≤ reach := h.cs.sz
  have hkn : cn ≤ 140737488355328 := by unfold reach at hcz; omega
  clear h hcz
  have B0 : Hid (Blk (w.alloc (Obj.cells (rarr ⟨KA, kn, kc, CA, cn, cc⟩ R) 45)) w.heap.size 45 (rarr ⟨KA, kn, kc, CA, cn, cc⟩ R)) := Blk.new_at rfl
  have BE : Hid (Below w.heap.size w (w.alloc (Obj.cells (rarr ⟨KA, kn, kc, CA, cn, cc⟩ R) 45))) := (Below.refl _ _).alloc (Nat.le_refl _) _
  go_enter Tryz.func59, Tryz.ntmps59
  go_upto_region 1 with fail
  change Code.wp _ _ _ _ (w.alloc (Obj.cells (rarr ⟨KA, kn, kc, CA, cn, cc⟩ R) 45))
  generalize w.alloc (Obj.cells (rarr ⟨KA, kn, kc, CA, cn, cc⟩ R) 45) = wa at *
  obtain ⟨q0, q1, q2, q3, q4, q5, qz⟩ := blk_ro B0.out
  simp only at q1 q5
  rcases own_ways R key with ⟨h1, h2⟩ | ⟨i, c, h1, hi, _, h2⟩
  · have HF := Lib.hid h2
    rw [h1] at HV
    clear h1 h2
    go_wp2_with fail
    refine (HV.out wa BE.out).mono ?_
    rintro e w1 ⟨rfl, hb⟩
    have CE := Lib.hid (BE.out.step' hb)
    clear hb BE B0 HV q0 q1 q2 q3 q4 q5 qz
    go_wp2_with fail
    go_ret
    exact ⟨by rw [HF.out]; rfl, CE.out⟩
  · have HF := Lib.hid h2
    rw [h1] at HV
    clear h1 h2
    have hlt : i < cn := by have := (List.getElem?_eq_some_iff.1 hi).1; have := hn.out; omega
    go_wp2_with fail
    refine (HV.out wa BE.out).mono ?_
    rintro e w1 ⟨rfl, hb⟩
    have CE := Lib.hid (BE.out.step' hb)
    have C0 := Lib.hid (B0.out.step hb)
    clear hb BE B0 HV q0 q1 q2 q3 q4 q5 qz
    obtain ⟨q0, q1, q2, q3, q4, q5, qz⟩ := blk_ro C0.out
    simp only at q1 q5
    obtain ⟨b, off, x, hA, hb, hx, e0, e1, e2, e3, e4⟩ := H.out.cs.sr.at5 hlt
    simp only at hA
    subst hA
    obtain rfl : x = c := Option.some.inj (hx.symm.trans hi)
    have g2 := (CE.out.cell (p := ⟨b, off + i * 5 + 2, none⟩) hb).trans e2
    have i0' : (0 : Int) ≤ (i : Int) := by omega
    have i1' : (i : Int) < (cn : Int) := by omega
    clear hx hi e0 e1 e2 e3 e4 C0
    go_wp2_with fail
    go_ret
    exact ⟨by rw [HF.out]; rfl, CE.out⟩

set_option maxRecDepth 100000 in
set_option maxHeartbeats 800000 in
theorem rowns_any (R : Ro) (a : RA) (s : Int) (key : ByteArray) (w : World) (h : RR w a R) :
    Calls Tryz.prog 25 #[rval a R, .int .i64 s, .string key] w fun e w' => e = .returned (.bool (rownsB R s key)) ∧ Below w.heap.size w w' := by
  have HV := Lib.hid fun (wr : World) (hb : Below w.heap.size w wr) => rowner_any R a key wr (h.step hb)
  obtain ⟨KA, kn, kc, CA, cn, cc⟩ := a
  clear h
  have B0 : Hid (Blk (w.alloc (Obj.cells (rarr ⟨KA, kn, kc, CA, cn, cc⟩ R) 45)) w.heap.size 45 (rarr ⟨KA, kn, kc, CA, cn, cc⟩ R)) := Blk.new_at rfl
  have BE : Hid (Below w.heap.size w (w.alloc (Obj.cells (rarr ⟨KA, kn, kc, CA, cn, cc⟩ R) 45))) := (Below.refl _ _).alloc (Nat.le_refl _) _
  obtain ⟨V, hV⟩ : ∃ V, V = ownC R key := ⟨_, rfl⟩
  rw [← hV] at HV
  unfold rownsB
  rw [← hV]
  clear hV
  go_enter Tryz.func25, Tryz.ntmps25
  go_upto_region 1 with fail
  change Code.wp _ _ _ _ (w.alloc (Obj.cells (rarr ⟨KA, kn, kc, CA, cn, cc⟩ R) 45))
  generalize w.alloc (Obj.cells (rarr ⟨KA, kn, kc, CA, cn, cc⟩ R) 45) = wa at *
  obtain ⟨q0, q1, q2, q3, q4, q5, qz⟩ := blk_ro B0.out
  simp only at q1 q5
  by_cases h0 : 0 ≤ s
  · have h0b : decide (0 ≤ s) = true := decide_eq_true h0
    have HF := Lib.hid h0b
    go_wp2_with fail
    refine (HV.out wa BE.out).mono ?_
    rintro e w1 ⟨rfl, hb⟩
    have CE := Lib.hid (BE.out.step' hb)
    clear hb BE B0 HV q0 q1 q2 q3 q4 q5 qz
    go_wp2_with fail
    go_ret
    exact ⟨by rw [HF.out]; rfl, CE.out⟩
  · have HF : Hid (decide (0 ≤ s) = false) := decide_eq_false h0
    go_wp2_with fail
    go_ret
    exact ⟨by rw [HF.out]; rfl, BE.out⟩

end Go.Proofs.YtblepmmibhphhaaGreatDoor


/- The contracts of router.Route and of the reference's Route. Printed by gen_roroute.py. -/
namespace Go.Proofs.YtblepmmibhphhaaGreatDoor
open Go.RowKit

noncomputable def rouR (R : Ro) (x : Val) : Int × Int := if (encR R.ks R.ha x).2 = 0 then (if idxI (inB (encR R.ks R.ha x).1) R.cs < 0 then 0 else ownC R (encR R.ks R.ha x).1, 0) else (0, (encR R.ks R.ha x).2)
noncomputable def rrouR (R : Ro) (x : Val) : Int × Int := if (rencR R.ks R.ha x).2 = 0 then (ownC R (rencR R.ks R.ha x).1, 0) else (0, (rencR R.ks R.ha x).2)
/-- every key of valid routes has a chunk -/
theorem VR.found {R : Ro} (h : VR R) (key : ByteArray) : ∃ (i : Nat) (c : Ch), idxI (inB key) R.cs = (i : Nat) ∧ R.cs[i]? = some c ∧ inB key c = true ∧ ownC R key = c.sh ∧ 0 ≤ c.sh ∧ c.sh < 8 := by
  obtain ⟨c, hm, hk⟩ := h.cn.ex key (bl_nil _) trivial
  rcases own_ways R key with ⟨h1, _⟩ | ⟨i, d, h1, h2, h3, h4⟩
  · exfalso
    rcases idxI_range (inB key) R.cs with ⟨_, h5⟩ | ⟨i, d, h5, _⟩
    · rw [h5 c hm] at hk; cases hk
    · rw [h1] at h5; omega
  · have hg := h.good d (List.mem_of_getElem? h2)
    exact ⟨i, d, h1, h2, h3, h4, hg.1, hg.2.1⟩
theorem VR.owns {R : Ro} (h : VR R) (s : Int) (key : ByteArray) : ownsB R s key = rownsB R s key := by
  obtain ⟨i, c, h1, _, _, h4, h5, _⟩ := h.found key
  unfold ownsB rownsB
  rw [h1, h4, decide_eq_true (by omega)]
  by_cases hs : c.sh = s
  · rw [decide_eq_true (by omega)]
  · have : (c.sh == s) = false := by simpa using hs
    rw [this, Bool.and_false, Bool.and_false]
theorem VR.route {R : Ro} (h : VR R) (x : Val) : rouR R x = rrouR R x := by
  have hk := keyE_parts h.ke
  unfold rouR rrouR
  rw [enc_same hk.2.2]
  split
  · obtain ⟨i, c, h1, _⟩ := h.found (encR R.ks R.ha x).1
    rw [h1, if_neg (by omega)]
  · rfl

set_option maxRecDepth 100000 in
set_option maxHeartbeats 1000000 in
theorem route_any (R : Ro) (a : RA) (x : Val) (c : VC) (w : World) (hT : Tabs w) (h : RR w a R) (hx : RW w c x) (h8 : R.ks.length ≤ 8) :
    Calls Tryz.prog 22 #[rval a R, c.val] w fun e w' => e = .returned (.tuple #[.int .i64 (rouR R x).1, .int .i64 (rouR R x).2]) ∧ Below w.heap.size w w' := by
  have HV := Lib.hid fun (key : ByteArray) (wr : World) (hb : Below w.heap.size w wr) => cfind_any R a key wr (h.step hb)
  obtain ⟨KA, kn, kc, CA, cn, cc⟩ := a
  have H := Lib.hid h
  have hn : Hid (cn = R.cs.length) := h.cs.ln
  have hcz : cn * 56 ≤ reach := h.cs.sz
  have hkn : cn ≤ 140737488355328 := by unfold reach at hcz; omega
  have HE := Lib.hid fun (wr : World) (hb : Below w.heap.size w wr) => senc_any R.ks R.ha KA kn kc x c wr (hT.step hb) (h.ks.step hb) (hx.step hb) h8
  clear h hcz hx hT
  obtain ⟨⟨K1, K2⟩, hK⟩ : ∃ K, encR R.ks R.ha x = K := ⟨_, rfl⟩
  rw [hK] at HE
  have HK := Lib.hid hK
  clear hK
  have B0 : Hid (Blk ((w.alloc (Obj.cells (rarr ⟨KA, kn, kc, CA, cn, cc⟩ R) 45)).alloc (Obj.cells c.arr 28)) w.heap.size 45 (rarr ⟨KA, kn, kc, CA, cn, cc⟩ R)) := (Blk.new_at rfl).alloc _
  have B1 : Hid (Blk ((w.alloc (Obj.cells (rarr ⟨KA, kn, kc, CA, cn, cc⟩ R) 45)).alloc (Obj.cells c.arr 28)) (w.heap.size + 1) 28 c.arr) := Blk.new_at (by simp)
  have BE : Hid (Below w.heap.size w ((w.alloc (Obj.cells (rarr ⟨KA, kn, kc, CA, cn, cc⟩ R) 45)).alloc (Obj.cells c.arr 28))) := ((Below.refl _ _).alloc (Nat.le_refl _) _).alloc (by simp) _
  go_enter Tryz.func22, Tryz.ntmps22
  go_upto_region 1 with fail
  change Code.wp _ _ _ _ ((w.alloc (Obj.cells (rarr ⟨KA, kn, kc, CA, cn, cc⟩ R) 45)).alloc (Obj.cells c.arr 28))
  generalize ((w.alloc (Obj.cells (rarr ⟨KA, kn, kc, CA, cn, cc⟩ R) 45)).alloc (Obj.cells c.arr 28)) = wa at *
  obtain ⟨q0, q1, q2, q3, q4, q5, qz⟩ := blk_ro B0.out
  simp only at q1 q5
  obtain ⟨a0, a1, a2, a3, a4⟩ := VAt.of_blk B1.out
  simp only [Nat.zero_add] at a0 a1 a2 a3 a4
  go_wp2_with fail
  refine (HE.out wa BE.out).mono ?_
  rintro e w1 ⟨rfl, hb⟩
  have CE := Lib.hid (BE.out.step' hb)
  have C0 := Lib.hid (B0.out.step hb)
  clear hb BE B0 B1 HE q0 q1 q2 q3 q4 q5 qz a0 a1 a2 a3 a4
  by_cases hk : K2 = 0
  rotate_left
  · have hkb : (K2 != 0) = true := by simpa using hk
    have HF : Hid (rouR R x = (0, K2)) := by unfold Hid rouR; rw [HK.out]; exact if_neg hk
    clear hk
    go_wp2_with fail
    go_ret2
    exact ⟨by rw [HF.out]; rfl, CE.out⟩
  subst hk
  obtain ⟨q0, q1, q2, q3, q4, q5, qz⟩ := blk_ro C0.out
  simp only at q1 q5
  have HV1 := Lib.hid (HV.out K1 w1 CE.out)
  rcases own_ways R K1 with ⟨h1, h2⟩ | ⟨i, ch, h1, hi, _, h2⟩
  · have HF : Hid (rouR R x = (0, 0)) := by unfold Hid rouR; rw [HK.out]; simp only [if_true]; rw [h1]; rfl
    rw [h1] at HV1
    clear h1 h2
    go_wp2_with fail
    refine HV1.out.mono ?_
    rintro e w2 ⟨rfl, hb⟩
    have DE := Lib.hid (CE.out.step' hb)
    clear hb HV1 CE C0 q0 q1 q2 q3 q4 q5 qz
    go_wp2_with fail
    go_ret2
    exact ⟨by rw [HF.out]; rfl, DE.out⟩
  · have HF : Hid (rouR R x = (ch.sh, 0)) := by unfold Hid rouR; rw [HK.out]; simp only [if_true]; rw [h1, if_neg (by omega), h2]
    rw [h1] at HV1
    clear h1 h2
    have hlt : i < cn := by have := (List.getElem?_eq_some_iff.1 hi).1; have := hn.out; omega
    go_wp2_with fail
    refine HV1.out.mono ?_
    rintro e w2 ⟨rfl, hb⟩
    have DE := Lib.hid (CE.out.step' hb)
    have D0 := Lib.hid (C0.out.step hb)
    clear hb HV1 CE C0 q0 q1 q2 q3 q4 q5 qz
    obtain ⟨q0, q1, q2, q3, q4, q5, qz⟩ := blk_ro D0.out
    simp only at q1 q5
    obtain ⟨b, off, y, hA, hb, hx, e0, e1, e2, e3, e4⟩ := H.out.cs.sr.at5 hlt
    simp only at hA
    subst hA
    obtain rfl : y = ch := Option.some.inj (hx.symm.trans hi)
    have g2 := (DE.out.cell (p := ⟨b, off + i * 5 + 2, none⟩) hb).trans e2
    have i0' : (0 : Int) ≤ (i : Int) := by omega
    have i1' : (i : Int) < (cn : Int) := by omega
    clear hx hi e0 e1 e2 e3 e4 D0
    go_wp2_with fail
    go_ret2
    exact ⟨by rw [HF.out]; rfl, DE.out⟩

set_option maxRecDepth 100000 in
set_option maxHeartbeats 1000000 in
theorem rroute_any (R : Ro) (a : RA) (x : Val) (c : VC) (w : World) (h : RR w a R) (hx : RW w c x) (h8 : R.ks.length ≤ 8) :
    Calls Tryz.prog 23 #[rval a R, c.val] w fun e w' => e = .returned (.tuple #[.int .i64 (rrouR R x).1, .int .i64 (rrouR R x).2]) ∧ Below w.heap.size w w' := by
  have HV := Lib.hid fun (key : ByteArray) (wr : World) (hb : Below w.heap.size w wr) => rowner_any R a key wr (h.step hb)
  obtain ⟨KA, kn, kc, CA, cn, cc⟩ := a
  have H := Lib.hid h
  have hn : Hid (cn = R.cs.length) := h.cs.ln
  have hcz : cn * 56 ≤ reach := h.cs.sz
  have hkn : cn ≤ 140737488355328 := by unfold reach at hcz; omega
  have HE := Lib.hid fun (wr : World) (hb : Below w.heap.size w wr) => rsenc_any R.ks R.ha KA kn kc x c wr (h.ks.step hb) (hx.step hb) h8
  clear h hcz hx
  obtain ⟨⟨K1, K2⟩, hK⟩ : ∃ K, rencR R.ks R.ha x = K := ⟨_, rfl⟩
  rw [hK] at HE
  have HK := Lib.hid hK
  clear hK
  have B0 : Hid (Blk ((w.alloc (Obj.cells (rarr ⟨KA, kn, kc, CA, cn, cc⟩ R) 45)).alloc (Obj.cells c.arr 28)) w.heap.size 45 (rarr ⟨KA, kn, kc, CA, cn, cc⟩ R)) := (Blk.new_at rfl).alloc _
  have B1 : Hid (Blk ((w.alloc (Obj.cells (rarr ⟨KA, kn, kc, CA, cn, cc⟩ R) 45)).alloc (Obj.cells c.arr 28)) (w.heap.size + 1) 28 c.arr) := Blk.new_at (by simp)
  have BE : Hid (Below w.heap.size w ((w.alloc (Obj.cells (rarr ⟨KA, kn, kc, CA, cn, cc⟩ R) 45)).alloc (Obj.cells c.arr 28))) := ((Below.refl _ _).alloc (Nat.le_refl _) _).alloc (by simp) _
  go_enter Tryz.func23, Tryz.ntmps23
  go_upto_region 1 with fail
  change Code.wp _ _ _ _ ((w.alloc (Obj.cells (rarr ⟨KA, kn, kc, CA, cn, cc⟩ R) 45)).alloc (Obj.cells c.arr 28))
  generalize ((w.alloc (Obj.cells (rarr ⟨KA, kn, kc, CA, cn, cc⟩ R) 45)).alloc (Obj.cells c.arr 28)) = wa at *
  obtain ⟨q0, q1, q2, q3, q4, q5, qz⟩ := blk_ro B0.out
  simp only at q1 q5
  obtain ⟨a0, a1, a2, a3, a4⟩ := VAt.of_blk B1.out
  simp only [Nat.zero_add] at a0 a1 a2 a3 a4
  go_wp2_with fail
  refine (HE.out wa BE.out).mono ?_
  rintro e w1 ⟨rfl, hb⟩
  have CE := Lib.hid (BE.out.step' hb)
  have C0 := Lib.hid (B0.out.step hb)
  clear hb BE B0 B1 HE q0 q1 q2 q3 q4 q5 qz a0 a1 a2 a3 a4
  by_cases hk : K2 = 0
  rotate_left
  · have hkb : (K2 != 0) = true := by simpa using hk
    have HF : Hid (rrouR R x = (0, K2)) := by unfold Hid rrouR; rw [HK.out]; exact if_neg hk
    clear hk
    go_wp2_with fail
    go_ret2
    exact ⟨by rw [HF.out]; rfl, CE.out⟩
  subst hk
  obtain ⟨q0, q1, q2, q3, q4, q5, qz⟩ := blk_ro C0.out
  simp only at q1 q5
  have HF : Hid (rrouR R x = (ownC R K1, 0)) := by unfold Hid rrouR; rw [HK.out]; exact if_pos rfl
  obtain ⟨V, hV⟩ : ∃ V, V = ownC R K1 := ⟨_, rfl⟩
  have HV1 := Lib.hid (HV.out K1 w1 CE.out)
  rw [← hV] at HF HV1
  clear hV
  go_wp2_with fail
  refine HV1.out.mono ?_
  rintro e w2 ⟨rfl, hb⟩
  have DE := Lib.hid (CE.out.step' hb)
  clear hb HV1 CE C0 q0 q1 q2 q3 q4 q5 qz
  go_wp2_with fail
  go_ret2
  exact ⟨by rw [HF.out]; rfl, DE.out⟩

end Go.Proofs.YtblepmmibhphhaaGreatDoor


/- The contract of router.copied. Printed by gen_rocopy.py. -/
namespace Go.Proofs.YtblepmmibhphhaaGreatDoor
open Go.RowKit

set_option maxHeartbeats 1000000 in
theorem cloneV_any (xs : List PV) (A : Option Addr) (n c : Nat) (w : World) (h : SR 5 recV w A n c xs) (hn : n * 80 ≤ reach) :
    Calls Tryz.prog 96 #[.slice A n c] w fun e w' => ∃ v, e = .returned v ∧ w'.ownsRow w.heap.size 28 5 v n (flat recV xs) ∧ Below w.heap.size w w' := by
  obtain ⟨j0, hj0, hy0, hy1, hy2⟩ := info_parts info_value
  have HL := Lib.hid h.ln
  unfold reach at hn
  cases A with
  | none =>
    have h0 : n = 0 := by
      rcases Nat.eq_zero_or_pos n with h0 | h0
      · exact h0
      · obtain ⟨b, off, e, _⟩ := h.el h0; cases e
    subst h0
    have HX : Hid (xs = []) := List.eq_nil_of_length_eq_zero HL.out.symm
    clear h
    have kn := fun (w : World) => Lib.run_eql_slice_nil (P := Tryz.prog) w 25 28 none 0 c 0 0 Tryz.underlying25
    go_enter Tryz.func96, Tryz.ntmps96
    go_wp2_with fail
    go_ret
    exact ⟨_, rfl, by rw [HX.out]; exact own_nil _ _ _ _, Below.refl _ _⟩
  | some ad =>
    have HR := Lib.hid (h.reads recV_length (by omega))
    have hO : (w.alloc (Obj.cells #[] 28)).ownsRow w.heap.size 28 5 (.slice (some ⟨w.heap.size, 0, none⟩) 0 0) 0 [] :=
      ⟨rfl, .inr ⟨w.heap.size, 0, #[], rfl, Nat.le_refl _, Blk.new_at rfl, Nat.le_refl _, Nat.zero_le _, rfl, rfl⟩⟩
    have HO := Lib.hid hO
    have H1 := Lib.hid (flat_one recV_one xs)
    clear h hO
    have kn := fun (w : World) => Lib.run_eql_slice_nil (P := Tryz.prog) w 25 28 (some ad) n c 0 0 Tryz.underlying25
    go_enter Tryz.func96, Tryz.ntmps96
    go_wp2_with (at_builtin; refine wpList_append_any _ rfl _ _ 25 rfl w.heap.size 28 j0 VC.zero.val 5 80 Tryz.underlying25 hj0 hy0 hy1 hy2 rfl (by decide) (.slice (some ⟨w.heap.size, 0, none⟩) 0 0) 0 [] rfl HO.out w.heap.size (some ad) n c (flat recV xs) rfl (HR.out.alloc (Nat.le_refl _) _) H1.out (by unfold maxLen; omega) (by omega) (by simp) ?_)
    intro v' w2 hown hg _
    go_wp2_with fail
    go_ret
    refine ⟨v', rfl, by simpa using hown, ?_⟩
    exact ((Below.refl w.heap.size w).alloc (Nat.le_refl _) _).grown hg (by simp) (fun k hk => by simp [Value.ownBlock] at hk; omega)

set_option maxHeartbeats 1000000 in
theorem cloneF_any (xs : List PF) (A : Option Addr) (n c : Nat) (w : World) (h : SR 6 recF w A n c xs) (hn : n * 96 ≤ reach) :
    Calls Tryz.prog 97 #[.slice A n c] w fun e w' => ∃ v, e = .returned v ∧ w'.ownsRow w.heap.size 69 6 v n (flat recF xs) ∧ Below w.heap.size w w' := by
  obtain ⟨j0, hj0, hy0, hy1, hy2⟩ := info_parts info_field
  have HL := Lib.hid h.ln
  unfold reach at hn
  cases A with
  | none =>
    have h0 : n = 0 := by
      rcases Nat.eq_zero_or_pos n with h0 | h0
      · exact h0
      · obtain ⟨b, off, e, _⟩ := h.el h0; cases e
    subst h0
    have HX : Hid (xs = []) := List.eq_nil_of_length_eq_zero HL.out.symm
    clear h
    have kn := fun (w : World) => Lib.run_eql_slice_nil (P := Tryz.prog) w 26 69 none 0 c 0 0 Tryz.underlying26
    go_enter Tryz.func97, Tryz.ntmps97
    go_wp2_with fail
    go_ret
    exact ⟨_, rfl, by rw [HX.out]; exact own_nil _ _ _ _, Below.refl _ _⟩
  | some ad =>
    have HR := Lib.hid (h.reads recF_length (by omega))
    have hO : (w.alloc (Obj.cells #[] 69)).ownsRow w.heap.size 69 6 (.slice (some ⟨w.heap.size, 0, none⟩) 0 0) 0 [] :=
      ⟨rfl, .inr ⟨w.heap.size, 0, #[], rfl, Nat.le_refl _, Blk.new_at rfl, Nat.le_refl _, Nat.zero_le _, rfl, rfl⟩⟩
    have HO := Lib.hid hO
    have H1 := Lib.hid (flat_one recF_one xs)
    clear h hO
    have kn := fun (w : World) => Lib.run_eql_slice_nil (P := Tryz.prog) w 26 69 (some ad) n c 0 0 Tryz.underlying26
    go_enter Tryz.func97, Tryz.ntmps97
    go_wp2_with (at_builtin; refine wpList_append_any _ rfl _ _ 26 rfl w.heap.size 69 j0 (.agg (#[.string ByteArray.empty] ++ VC.zero.arr)) 6 96 Tryz.underlying26 hj0 hy0 hy1 hy2 rfl (by decide) (.slice (some ⟨w.heap.size, 0, none⟩) 0 0) 0 [] rfl HO.out w.heap.size (some ad) n c (flat recF xs) rfl (HR.out.alloc (Nat.le_refl _) _) H1.out (by unfold maxLen; omega) (by omega) (by simp) ?_)
    intro v' w2 hown hg _
    go_wp2_with fail
    go_ret
    refine ⟨v', rfl, by simpa using hown, ?_⟩
    exact ((Below.refl w.heap.size w).alloc (Nat.le_refl _) _).grown hg (by simp) (fun k hk => by simp [Value.ownBlock] at hk; omega)

/-- a row of values, of which the first i are copies -/
structure CqI (w : World) (g : Nat) (l : List Val) (i : Nat) (ps : List PV) (wr : World) : Prop where
  row : ∃ R : List Value, Blk wr g 28 (flat recV ps ++ R).toArray
  len : ps.length = l.length
  el : ∀ (j : Nat) (p : PV), ps[j]? = some p → ∃ y, l[j]? = some y ∧ (j < i → RV (fun b => w.heap.size ≤ b ∧ b ≠ g) wr p.1 y) ∧ (i ≤ j → RV (fun b => b < w.heap.size) wr p.1 y)
theorem CqI.lt {w : World} {g : Nat} {l : List Val} {i : Nat} {ps : List PV} {wr : World} (h : CqI w g l i ps wr) : g < wr.heap.size := by
  obtain ⟨R, hR⟩ := h.row
  exact hR.lt
theorem CqI.step {w : World} {g : Nat} {l : List Val} {i : Nat} {ps : List PV} {wr w' : World} (h : CqI w g l i ps wr) (hb : Below wr.heap.size wr w') : CqI w g l i ps w' := by
  obtain ⟨R, hR⟩ := h.row
  refine ⟨⟨R, hR.step hb⟩, h.len, fun j p hp => ?_⟩
  obtain ⟨y, hy, h1, h2⟩ := h.el j p hp
  exact ⟨y, hy, fun hj => (h1 hj).step hb, fun hj => (h2 hj).step hb⟩
theorem CqI.cells {w : World} {g : Nat} {l : List Val} {i : Nat} {ps : List PV} {wr : World} (h : CqI w g l i ps wr) {j : Nat} {p : PV} (hp : ps[j]? = some p) {k : Nat} {v : Value} (hk : (recV p)[k]? = some v) : wr.cell? ⟨g, j * 5 + k, none⟩ = some v := by
  obtain ⟨R, hR⟩ := h.row
  rw [hR.cell]
  have h1 := flat_get recV_length hp hk
  have h2 : j * 5 + k < (flat recV ps).length := (List.getElem?_eq_some_iff.1 h1).1
  rw [List.getElem?_toArray, List.getElem?_append_left h2]
  exact h1
theorem CqI.frozen {w : World} {g : Nat} {l : List Val} {i : Nat} {ps : List PV} {wr : World} (h : CqI w g l i ps wr) (k : Nat) : wr.frozen? ⟨g, k, none⟩ = false := by
  obtain ⟨R, hR⟩ := h.row
  exact hR.frozen k
theorem CqI.put {w : World} {g : Nat} {l : List Val} {i : Nat} {ps : List PV} {wr : World} {c' : VC} {p : PV} {y : Val} (h : CqI w g l i ps wr) (hp : ps[i]? = some p) (hy : l[i]? = some y) (hg : w.heap.size ≤ g) (hr : RV (fun b => w.heap.size ≤ b ∧ b ≠ g) wr c' y) :
    CqI w g l (i + 1) (ps.set i (c', y)) (setV wr g (i * 5) c') := by
  have hi : i < ps.length := (List.getElem?_eq_some_iff.1 hp).1
  obtain ⟨R, hR⟩ := h.row
  refine ⟨⟨R, ?_⟩, by rw [List.length_set]; exact h.len, fun j q hq => ?_⟩
  · have h1 : Blk (wr.setCells g (i * 5) c'.list) g 28 (setList (flat recV ps ++ R) (i * 5) c'.list).toArray := hR.setCells c'.list (i * 5)
    have hf : (flat recV ps).length = ps.length * 5 := flat_length recV_length ps
    have hm : (i + 1) * 5 ≤ ps.length * 5 := Nat.mul_le_mul_right _ hi
    have e1 : setList (flat recV ps ++ R) (i * 5) c'.list = flat recV (ps.set i (c', y)) ++ R := by
      rw [setList_eq _ _ _ (by rw [List.length_append, hf]; simp [VC.list]; omega)]
      have e2 : (flat recV ps ++ R).take (i * 5) = flat recV (ps.take i) := by
        rw [List.take_append_of_le_length (by rw [hf]; omega)]
        exact flat_take recV_length ps i
      have e3 : (flat recV ps ++ R).drop (i * 5 + c'.list.length) = flat recV (ps.drop (i + 1)) ++ R := by
        rw [show i * 5 + c'.list.length = (i + 1) * 5 by simp [VC.list]; omega, List.drop_append_of_le_length (by rw [hf]; exact hm), flat_drop recV_length]
      rw [e2, e3, List.set_eq_take_append_cons_drop, if_pos hi, flat_append]
      have e4 : flat recV ((c', y) :: ps.drop (i + 1)) = recV (c', y) ++ flat recV (ps.drop (i + 1)) := rfl
      rw [e4]
      simp [recV]
    rw [← e1]
    exact h1
  · have keep : ∀ {G : Nat → Prop} {e : VC} {z : Val}, RV G wr e z → (∀ b, G b → b ≠ g) → RV G (setV wr g (i * 5) c') e z := fun hz hG => hz.keep fun b hb => heap_setV (hG b hb)
    by_cases hj : j = i
    · subst hj
      rw [List.getElem?_set_self hi] at hq
      cases hq
      skip
      exact ⟨y, hy, fun _ => keep hr fun b hb => hb.2, fun h' => by omega⟩
    · rw [List.getElem?_set_ne (fun e => hj e.symm)] at hq
      obtain ⟨z, hz, h1, h2⟩ := h.el j q hq
      exact ⟨z, hz, fun h' => keep (h1 (by omega)) fun b hb => hb.2, fun h' => keep (h2 (by omega)) fun b hb => by omega⟩
/-- a row of fields, of which the first i are copies -/
structure CfI (w : World) (g : Nat) (l : List Fld) (i : Nat) (ps : List PF) (wr : World) : Prop where
  row : ∃ R : List Value, Blk wr g 69 (flat recF ps ++ R).toArray
  len : ps.length = l.length
  el : ∀ (j : Nat) (p : PF), ps[j]? = some p → ∃ y, l[j]? = some y ∧ y.s = p.2.s ∧ p.2.s.size ≤ reach ∧ (j < i → RV (fun b => w.heap.size ≤ b ∧ b ≠ g) wr p.1 y.v) ∧ (i ≤ j → RV (fun b => b < w.heap.size) wr p.1 y.v)
theorem CfI.lt {w : World} {g : Nat} {l : List Fld} {i : Nat} {ps : List PF} {wr : World} (h : CfI w g l i ps wr) : g < wr.heap.size := by
  obtain ⟨R, hR⟩ := h.row
  exact hR.lt
theorem CfI.step {w : World} {g : Nat} {l : List Fld} {i : Nat} {ps : List PF} {wr w' : World} (h : CfI w g l i ps wr) (hb : Below wr.heap.size wr w') : CfI w g l i ps w' := by
  obtain ⟨R, hR⟩ := h.row
  refine ⟨⟨R, hR.step hb⟩, h.len, fun j p hp => ?_⟩
  obtain ⟨y, hy, hs, hz, h1, h2⟩ := h.el j p hp
  exact ⟨y, hy, hs, hz, fun hj => (h1 hj).step hb, fun hj => (h2 hj).step hb⟩
theorem CfI.cells {w : World} {g : Nat} {l : List Fld} {i : Nat} {ps : List PF} {wr : World} (h : CfI w g l i ps wr) {j : Nat} {p : PF} (hp : ps[j]? = some p) {k : Nat} {v : Value} (hk : (recF p)[k]? = some v) : wr.cell? ⟨g, j * 6 + k, none⟩ = some v := by
  obtain ⟨R, hR⟩ := h.row
  rw [hR.cell]
  have h1 := flat_get recF_length hp hk
  have h2 : j * 6 + k < (flat recF ps).length := (List.getElem?_eq_some_iff.1 h1).1
  rw [List.getElem?_toArray, List.getElem?_append_left h2]
  exact h1
theorem CfI.frozen {w : World} {g : Nat} {l : List Fld} {i : Nat} {ps : List PF} {wr : World} (h : CfI w g l i ps wr) (k : Nat) : wr.frozen? ⟨g, k, none⟩ = false := by
  obtain ⟨R, hR⟩ := h.row
  exact hR.frozen k
theorem CfI.put {w : World} {g : Nat} {l : List Fld} {i : Nat} {ps : List PF} {wr : World} {c' : VC} {p : PF} {y : Fld} (h : CfI w g l i ps wr) (hp : ps[i]? = some p) (hy : l[i]? = some y) (hg : w.heap.size ≤ g) (hs : y.s = p.2.s) (hr : RV (fun b => w.heap.size ≤ b ∧ b ≠ g) wr c' y.v) :
    CfI w g l (i + 1) (ps.set i (c', p.2)) (setV wr g (i * 6 + 1) c') := by
  have hi : i < ps.length := (List.getElem?_eq_some_iff.1 hp).1
  obtain ⟨R, hR⟩ := h.row
  refine ⟨⟨R, ?_⟩, by rw [List.length_set]; exact h.len, fun j q hq => ?_⟩
  · have h1 : Blk (wr.setCells g (i * 6 + 1) c'.list) g 69 (setList (flat recF ps ++ R) (i * 6 + 1) c'.list).toArray := hR.setCells c'.list (i * 6 + 1)
    have hf : (flat recF ps).length = ps.length * 6 := flat_length recF_length ps
    have hm : (i + 1) * 6 ≤ ps.length * 6 := Nat.mul_le_mul_right _ hi
    have e1 : setList (flat recF ps ++ R) (i * 6 + 1) c'.list = flat recF (ps.set i (c', p.2)) ++ R := by
      rw [setList_eq _ _ _ (by rw [List.length_append, hf]; simp [VC.list]; omega)]
      have e2 : (flat recF ps ++ R).take (i * 6 + 1) = flat recF (ps.take i) ++ [.string p.2.s] := by
        rw [List.take_append_of_le_length (by rw [hf]; omega)]
        rw [show i * 6 + 1 = i * 6 + 1 from rfl, List.take_add, flat_take recF_length, flat_drop recF_length, drop_of hp]
        rfl
      have e3 : (flat recF ps ++ R).drop (i * 6 + 1 + c'.list.length) = flat recF (ps.drop (i + 1)) ++ R := by
        rw [show i * 6 + 1 + c'.list.length = (i + 1) * 6 by simp [VC.list]; omega, List.drop_append_of_le_length (by rw [hf]; exact hm), flat_drop recF_length]
      rw [e2, e3, List.set_eq_take_append_cons_drop, if_pos hi, flat_append]
      have e4 : flat recF ((c', p.2) :: ps.drop (i + 1)) = recF (c', p.2) ++ flat recF (ps.drop (i + 1)) := rfl
      rw [e4]
      simp [recF]
    rw [← e1]
    exact h1
  · have keep : ∀ {G : Nat → Prop} {e : VC} {z : Val}, RV G wr e z → (∀ b, G b → b ≠ g) → RV G (setV wr g (i * 6 + 1) c') e z := fun hz hG => hz.keep fun b hb => heap_setV (hG b hb)
    by_cases hj : j = i
    · subst hj
      rw [List.getElem?_set_self hi] at hq
      cases hq
      obtain ⟨z, hz, hzs, hzz, _⟩ := h.el j p hp
      exact ⟨y, hy, hs, hzz, fun _ => keep hr fun b hb => hb.2, fun h' => by omega⟩
    · rw [List.getElem?_set_ne (fun e => hj e.symm)] at hq
      obtain ⟨z, hz, hs1, hz1, h1, h2⟩ := h.el j q hq
      exact ⟨z, hz, hs1, hz1, fun h' => keep (h1 (by omega)) fun b hb => hb.2, fun h' => keep (h2 (by omega)) fun b hb => by omega⟩

theorem copy_join {w5 : World} {lo : Nat} {ck cn : Int} {ct : ByteArray} {A1 A2 : Option Addr} {ln c1 dn c2 : Nat} {k n : Int} {t : ByteArray} {l : List Val} {d : List Fld} (hk : ck = k) (hn : cn = n) (ht : ct = t) (hz : t.size ≤ reach)
    (hl : RV (fun b => lo ≤ b) w5 ⟨6, 0, ByteArray.empty, A1, ln, c1, none, 0, 0⟩ (.mk 6 0 ByteArray.empty l [])) (hd : RV (fun b => lo ≤ b) w5 ⟨5, 0, ByteArray.empty, none, 0, 0, A2, dn, c2⟩ (.mk 5 0 ByteArray.empty [] d)) :
    RV (fun b => lo ≤ b) w5 ⟨ck, cn, ct, A1, ln, c1, A2, dn, c2⟩ (.mk k n t l d) := by
  have fl := hl.open
  have fd := hd.open
  exact RVs.shut ⟨hk, hn, ht, hz, fl.ln, fl.lc, fl.lsz, fl.la, fd.dn, fd.dc, fd.dsz, fd.da⟩
theorem copy_far {w5 : World} {a lo : Nat} {e : VC} (h : a + 2 ≤ lo) : ∀ b, lo ≤ b → b < w5.heap.size → a ≤ b ∧ (setV w5 (a + 1) 0 e).heap[b]? = w5.heap[b]? := fun b hb _ => ⟨by omega, heap_setV (by omega)⟩
set_option maxRecDepth 100000 in
set_option maxHeartbeats 4000000 in
theorem vcopied_any (x : Val) : ∀ (c : VC) (w : World), RW w c x → Calls Tryz.prog 61 #[c.val] w (CopyOk w x) := by
  induction x using Val.ind with
  | h k n t l d ihl ihd =>
  intro c w h
  obtain ⟨ps, hps, hsl⟩ := h.sl
  obtain ⟨fs, hfs, hsd⟩ := h.sd
  obtain ⟨ck, cn, ct, LA, ln, lc, DA, dn, dc⟩ := c
  have HO := Lib.hid h.open
  have hlz : ln * 80 ≤ 140737488355328 := h.open.lsz
  have hdz : dn * 96 ≤ 140737488355328 := h.open.dsz
  have hln : ln ≤ 140737488355328 := by omega
  have hdn : dn ≤ 140737488355328 := by omega
  have HLL : Hid (ln = l.length) := h.open.ln
  have HDD : Hid (dn = d.length) := h.open.dn
  have HPS : Hid (ps.map Prod.snd = l) := hps
  have HFS : Hid (fs.map Prod.snd = d) := hfs
  have HSL := Lib.hid hsl
  have HSD := Lib.hid hsd
  have HIL := Lib.hid ihl
  have HID := Lib.hid ihd
  have B0 : Hid (Blk ((w.alloc (Obj.cells (VC.arr ⟨ck, cn, ct, LA, ln, lc, DA, dn, dc⟩) 28)).alloc (Obj.cells VC.zero.arr 28)) w.heap.size 28 (VC.arr ⟨ck, cn, ct, LA, ln, lc, DA, dn, dc⟩)) := (Blk.new_at rfl).alloc _
  have B1 : Hid (Blk ((w.alloc (Obj.cells (VC.arr ⟨ck, cn, ct, LA, ln, lc, DA, dn, dc⟩) 28)).alloc (Obj.cells VC.zero.arr 28)) (w.heap.size + 1) 28 VC.zero.arr) := Blk.new_at (by simp)
  have BE : Hid (Below w.heap.size w ((w.alloc (Obj.cells (VC.arr ⟨ck, cn, ct, LA, ln, lc, DA, dn, dc⟩) 28)).alloc (Obj.cells VC.zero.arr 28))) := ((Below.refl _ _).alloc (Nat.le_refl _) _).alloc (by simp) _
  have HWA : Hid (((w.alloc (Obj.cells (VC.arr ⟨ck, cn, ct, LA, ln, lc, DA, dn, dc⟩) 28)).alloc (Obj.cells VC.zero.arr 28)).heap.size = w.heap.size + 2) := by simp [Hid]
  clear h hps hfs hsl hsd ihl ihd hlz hdz
  go_enter Tryz.func61, Tryz.ntmps61
  go_upto_region 1 with fail
  change Code.wp _ _ _ _ ((w.alloc (Obj.cells (VC.arr ⟨ck, cn, ct, LA, ln, lc, DA, dn, dc⟩) 28)).alloc (Obj.cells VC.zero.arr 28))
  generalize ((w.alloc (Obj.cells (VC.arr ⟨ck, cn, ct, LA, ln, lc, DA, dn, dc⟩) 28)).alloc (Obj.cells VC.zero.arr 28)) = wa at *
  have HCV := Lib.hid (cloneV_any ps LA ln lc wa (HSL.out.sr.step BE.out) HSL.out.sz)
  have k3 := B0.out.cell 3
  have kz := B0.out.frozen
  simp at k3
  go_wp2_with fail
  refine HCV.out.mono ?_
  rintro e w1 ⟨v1, rfl, hown, hb⟩
  obtain ⟨A1, c1, rfl, hc1⟩ := own_slice hown
  have C0 := Lib.hid (B0.out.step hb)
  have C1 := Lib.hid (B1.out.step hb)
  have CE := Lib.hid (BE.out.step' hb)
  have hown2 := own_far hown (p := ⟨w.heap.size, 3, none⟩) (fun e => by have h1 : wa.heap.size ≤ w.heap.size := own_ge hown _ e; have h2 := HWA.out; omega) (.slice A1 ln c1)
  clear hb B0 B1 HCV k3 kz
  have k3 := C0.out.cell 3
  have kz := C0.out.frozen
  simp at k3
  go_upto_region 2 with fail
  change Code.wp _ _ _ _ (w1.setCell ⟨w.heap.size, 3, none⟩ (.slice A1 ln c1))
  have D0 : Hid (Blk (w1.setCell ⟨w.heap.size, 3, none⟩ (.slice A1 ln c1)) w.heap.size 28 (VC.arr ⟨ck, cn, ct, A1, ln, c1, DA, dn, dc⟩)) := C0.out.set_ 3 _
  have D1 : Hid (Blk (w1.setCell ⟨w.heap.size, 3, none⟩ (.slice A1 ln c1)) (w.heap.size + 1) 28 VC.zero.arr) := C1.out.far (p := ⟨w.heap.size, 3, none⟩) (by show w.heap.size + 1 ≠ w.heap.size; omega) _
  have DE : Hid (Below w.heap.size w (w1.setCell ⟨w.heap.size, 3, none⟩ (.slice A1 ln c1))) := CE.out.setCell (by show w.heap.size ≤ w.heap.size; omega) _
  generalize w1.setCell ⟨w.heap.size, 3, none⟩ (.slice A1 ln c1) = w2 at *
  have HOW := Lib.hid hown2
  have HC1 := Lib.hid hc1
  clear hown hown2 k3 kz C0 C1 CE hc1
  have k3 := D0.out.cell 3
  simp at k3
  go_upto_block 0 with fail
  go_cut [] (fun wx => Blk wx w.heap.size 28 (VC.arr ⟨ck, cn, ct, A1, ln, c1, DA, dn, dc⟩) ∧ Blk wx (w.heap.size + 1) 28 VC.zero.arr ∧ RV (fun b => wa.heap.size ≤ b) wx ⟨6, 0, ByteArray.empty, A1, ln, c1, none, 0, 0⟩ (.mk 6 0 ByteArray.empty l []) ∧ Below w.heap.size w wx)
  case first =>
    rcases Nat.eq_zero_or_pos ln with h0 | h0
    · subst h0
      go_upto_region 3 with fail
      go_loopw [3, 12] (fun _ u12 wr => u12 = .int .i64 0 ∧ wr = w2) (fun _ _ _ => 0)
      case atStart => exact ⟨rfl, rfl⟩
      case round =>
        obtain ⟨rfl, rfl⟩ := hrel
        go_wp2_with fail
        go_meet
        refine ⟨D0.out, D1.out, RVs.shut ⟨rfl, rfl, rfl, by show 0 ≤ reach; decide, HLL.out, HC1.out, by show 0 * 80 ≤ reach; decide, fun h => absurd h (by show ¬ (0 < 0); omega), rfl, Nat.le_refl _, by show 0 * 96 ≤ reach; decide, fun h => absurd h (by show ¬ (0 < 0); omega)⟩, DE.out⟩
    · obtain ⟨g, cap, hv, hgb, hgl⟩ := HOW.out.form h0
      cases hv
      obtain ⟨R, hR, _, _, _, _⟩ := own_blk HOW.out
      have HG : Hid (wa.heap.size ≤ g) := hgb
      have HG2 : Hid (w.heap.size ≤ g) := by have := HWA.out; unfold Hid; omega
      have HNE : Hid (w.heap.size ≠ g ∧ w.heap.size + 1 ≠ g) := by have := HWA.out; exact ⟨by omega, by omega⟩
      have Q0 : Hid (CqI wa g l 0 ps w2) := ⟨⟨R, hR⟩, by rw [← HPS.out, List.length_map], fun j p hp => ⟨p.2, by rw [← HPS.out, List.getElem?_map, hp]; rfl, fun hj => absurd hj (by omega), fun _ => ((HSL.out.rv p (List.mem_of_getElem? hp)).lt.keep fun b hb => DE.out.block b hb.2).mono fun b hb => (by have := HWA.out; have := hb.2; omega : b < wa.heap.size)⟩⟩
      have HI := HIL
      clear hR hgl hgb
      go_upto_region 3 with fail
      clear k3
      go_loopw [3, 12] (fun _ u12 wr => ∃ (i : Nat) (qs : List PV), i ≤ ln ∧ u12 = .int .i64 i ∧ Blk wr w.heap.size 28 (VC.arr ⟨ck, cn, ct, some ⟨g, 0, none⟩, ln, c1, DA, dn, dc⟩) ∧ Blk wr (w.heap.size + 1) 28 VC.zero.arr ∧ CqI wa g l i qs wr ∧ Below w.heap.size w wr) (fun _ u12 _ => ln - (intOf u12).toNat)
      case atStart => exact ⟨0, ps, Nat.zero_le _, rfl, D0.out, D1.out, Q0.out, DE.out⟩
      case round =>
        obtain ⟨i, qs, hi, rfl, E0, E1, J, EE⟩ := hrel
        have HE0 := Lib.hid E0
        have HE1 := Lib.hid E1
        have J2 := Lib.hid J
        have HEE := Lib.hid EE
        by_cases hlt : i < ln
        · obtain ⟨p, hp⟩ : ∃ p, qs[i]? = some p := ⟨_, List.getElem?_eq_getElem (by have h1 := J.len; have h2 := HLL.out; omega)⟩
          obtain ⟨y, hy, _, hrv⟩ := J.el i p hp
          have HPI := Lib.hid hp
          have HY := Lib.hid hy
          have HC := Lib.hid (HI.out y (List.mem_of_getElem? hy))
          have RP : Hid (RW wr p.1 y) := (hrv (Nat.le_refl _)).mono fun _ _ => trivial
          have lb0 := E0.lt
          have gl := J.lt
          have HWL : Hid (wa.heap.size ≤ wr.heap.size) := by have h1 := HG.out; unfold Hid; omega
          have i0' : (0 : Int) ≤ (i : Int) := by omega
          have i1' : (i : Int) < (ln : Int) := by omega
          have k3 := E0.cell 3
          simp at k3
          go_upto_region 5 with fail
          have B0' : Hid (Below wr.heap.size wr wr.drew) := Lib.hid ((Below.refl wr.heap.size wr).drew)
          have KC : Hid (∀ w' : World, Below wr.heap.size wr w' → w'.cell? ⟨w.heap.size, 3, none⟩ = some (.slice (some ⟨g, 0, none⟩) ln c1)) := Lib.hid fun w' hb => (hb.cell (p := ⟨w.heap.size, 3, none⟩) lb0).trans k3
          have KD : Hid (∀ (W : World) (e : VC), Below wr.heap.size wr W → (setV W g (i * 5) e).cell? ⟨w.heap.size, 3, none⟩ = some (.slice (some ⟨g, 0, none⟩) ln c1)) := Lib.hid fun W e hb => (World.cell?_of_block (w := W) (a := ⟨w.heap.size, 3, none⟩) (heap_setV HNE.out.1)).trans (KC.out W hb)
          clear hp hy hrv E0 E1 J EE k3
          refine wp_region_noPanic ?_
          refine wp_region_held_drew (S := (fun w' => w'.cell? ⟨w.heap.size, 3, none⟩ = some (.slice (some ⟨g, 0, none⟩) ln c1))) (by kernel_rfl) ?_ (fun hHeld => ?_)
          · (try dsimp only); exact KC.out _ B0'.out
          have JW := Lib.hid (J2.out.step B0'.out)
          have y0 := JW.out.cells HPI.out (k := 0) rfl
          have y1 := JW.out.cells HPI.out (k := 1) rfl
          have y2 := JW.out.cells HPI.out (k := 2) rfl
          have y3 := JW.out.cells HPI.out (k := 3) rfl
          have y4 := JW.out.cells HPI.out (k := 4) rfl
          simp only [Nat.add_zero] at y0 y1 y2 y3 y4
          have HW0 : Hid (wr.heap.size = wr.drew.heap.size) := rfl
          generalize wr.drew = W0 at *
          have B := B0'
          refine wpAnyH_take (i := 0) (v := ?_) (take_at rfl) (by kernel_rfl) (by kernel_rfl) (by kernel_rfl) (fun _ _ _ h => h) (Or.inl ⟨by rfl, ?_⟩) (by assumption) ?_
          rotate_left
          · intro w' hSw; (try dsimp only at hSw); go_simp; (try with_reducible rfl)
          (try simp only [Act.put, List.setIfInBounds_toArray, List.set_cons_zero, List.set_cons_succ])
          refine wpAnyH_take (i := 1) (v := ?_) (take_at rfl) (by kernel_rfl) (by kernel_rfl) (by kernel_rfl) (fun _ _ _ h => h) (Or.inl ⟨by rfl, ?_⟩) (by assumption) ?_
          rotate_left
          · intro w' hSw; (try dsimp only at hSw); go_simp; (try with_reducible rfl)
          (try simp only [Act.put, List.setIfInBounds_toArray, List.set_cons_zero, List.set_cons_succ])
          refine wpAnyH_take (i := 2) (v := ?_) (take_at rfl) (by kernel_rfl) (by kernel_rfl) (by kernel_rfl) (fun _ _ _ h => h) (Or.inl ⟨by rfl, ?_⟩) (by assumption) ?_
          rotate_left
          · intro w' hSw; (try dsimp only at hSw); go_simp; (try with_reducible rfl)
          (try simp only [Act.put, List.setIfInBounds_toArray, List.set_cons_zero, List.set_cons_succ])
          refine wpAnyH_take (i := 3) (v := ?_) (take_at rfl) (by kernel_rfl) (by kernel_rfl) (by kernel_rfl) (fun _ _ _ h => h) (Or.inl ⟨by rfl, ?_⟩) (by assumption) ?_
          rotate_left
          · intro w' hSw; (try dsimp only at hSw); go_simp; (try with_reducible rfl)
          (try simp only [Act.put, List.setIfInBounds_toArray, List.set_cons_zero, List.set_cons_succ])
          refine wpAnyH_take (i := 4) (v := ?_) (take_at rfl) (by kernel_rfl) (by kernel_rfl) (by kernel_rfl) (fun _ _ _ h => h) (Or.inl ⟨by rfl, ?_⟩) (by assumption) ?_
          rotate_left
          · intro w' hSw; (try dsimp only at hSw); go_simp; (try with_reducible rfl)
          (try simp only [Act.put, List.setIfInBounds_toArray, List.set_cons_zero, List.set_cons_succ])
          refine wpAnyH_take (i := 5) (v := ?_) (take_at rfl) (by kernel_rfl) (by kernel_rfl) (by kernel_rfl) (fun _ _ _ h => h) (Or.inl ⟨by rfl, ?_⟩) (by assumption) ?_
          rotate_left
          · intro w' hSw; (try dsimp only at hSw); go_simp; (try with_reducible rfl)
          (try simp only [Act.put, List.setIfInBounds_toArray, List.set_cons_zero, List.set_cons_succ])
          refine wpAnyH_take (i := 6) (v := ?_) (take_at rfl) (by kernel_rfl) (by kernel_rfl) (by kernel_rfl) (fun _ _ _ h => h) (Or.inl ⟨by rfl, ?_⟩) (by assumption) ?_
          rotate_left
          · intro w' hSw; (try dsimp only at hSw); go_simp; (try with_reducible rfl)
          (try simp only [Act.put, List.setIfInBounds_toArray, List.set_cons_zero, List.set_cons_succ])
          refine wpAnyH_ready (rs := [7]) (by kernel_rfl) (by simp) ?_
          refine AllReadyH.cons (take_at rfl) (fun K hK => ?_) AllReadyH.nil
          go_simp
          refine hK.out _ _ ?_ (fun hHeld2 => ?_)
          · (try dsimp only); exact KC.out _ B.out
          clear hK K hHeld
          have hHeld := hHeld2
          clear hHeld2
          (try simp only [Act.put, List.setIfInBounds_toArray, List.set_cons_zero, List.set_cons_succ])
          clear y0 y1 y2 y3 y4 JW
          refine wpAnyH_ready (rs := [8]) (by kernel_rfl) (by simp) ?_
          refine AllReadyH.cons (take_at rfl) (fun K hK => ?_) AllReadyH.nil
          go_simp
          refine (HC.out p.1 W0 (RP.out.step B.out)).mono ?_
          rintro e W1 ⟨c9, rfl, hr, hb⟩
          have R9 := Lib.hid hr
          have BW := Lib.hid hb
          replace B := Lib.hid (B.out.step' hb)
          clear hb hr
          (try go_wp2_with fail)
          refine hK.out _ _ ?_ (fun hHeld2 => ?_)
          · (try dsimp only); exact KC.out _ B.out
          clear hK K hHeld
          have hHeld := hHeld2
          clear hHeld2
          (try simp only [Act.put, List.setIfInBounds_toArray, List.set_cons_zero, List.set_cons_succ])
          refine wpAnyH_take (i := 9) (v := ?_) (take_at rfl) (by kernel_rfl) (by kernel_rfl) (by kernel_rfl) (fun _ _ _ h => h) (Or.inl ⟨by rfl, ?_⟩) (by assumption) ?_
          rotate_left
          · intro w' hSw; (try dsimp only at hSw); go_simp; (try with_reducible rfl)
          (try simp only [Act.put, List.setIfInBounds_toArray, List.set_cons_zero, List.set_cons_succ])
          refine wpAnyH_ready (rs := [10]) (by kernel_rfl) (by simp) ?_
          refine AllReadyH.cons (take_at rfl) (fun K hK => ?_) AllReadyH.nil
          have J9 := Lib.hid (J2.out.step B.out)
          have z9 := J9.out.frozen
          have y0 := J9.out.cells HPI.out (k := 0) rfl
          have y1 := J9.out.cells HPI.out (k := 1) rfl
          have y2 := J9.out.cells HPI.out (k := 2) rfl
          have y3 := J9.out.cells HPI.out (k := 3) rfl
          have y4 := J9.out.cells HPI.out (k := 4) rfl
          simp only [Nat.add_zero] at y0 y1 y2 y3 y4
          go_simp
          refine hK.out _ _ (KD.out W1 c9 B.out) (fun hHeld2 => ?_)
          clear hHeld hHeld2 hK K y0 y1 y2 y3 y4 z9
          (try simp only [Act.put, List.setIfInBounds_toArray, List.set_cons_zero, List.set_cons_succ])
          refine wpAnyH_done (by kernel_rfl) ?_ _
          refine NoPanic.normal ?_
          have HN : Hid (CqI wa g l (i + 1) (qs.set i (c9, y)) (setV W1 g (i * 5) c9)) := (J2.out.step B.out).put HPI.out HY.out HG.out (R9.out.mono fun b hb => by have h2 := HW0.out; have hb' : W0.heap.size ≤ b := hb; exact ⟨by have := HWL.out; omega, by omega⟩)
          have HN0 := Lib.hid ((HE0.out.step B.out).farV (b := g) HNE.out.1 (i * 5) c9)
          have HN1 := Lib.hid ((HE1.out.step B.out).farV (b := g) HNE.out.2 (i * 5) c9)
          have HNB := Lib.hid (below_setV (HEE.out.step' B.out ) (B := w.heap.size) HG2.out (i * 5) c9)
          clear R9 BW B HE0 HE1 HEE J2 RP HC KC KD
          go_wp2_with fail
          go_roundw
          case rel => exact ⟨i + 1, _, hlt, by go_num, HN0.out, HN1.out, HN.out, HNB.out⟩
          case measure => simp [intOf]; omega
        · obtain rfl : i = ln := by omega
          have HBK : Hid (∀ b off, some (⟨g, 0, none⟩ : Addr) = some ⟨b, off, none⟩ → b = g ∧ off = 0) := fun b off e => by cases e; exact ⟨rfl, rfl⟩
          clear E0 E1 J EE
          go_wp2_with fail
          go_meet
          refine ⟨HE0.out, HE1.out, RVs.shut ⟨rfl, rfl, rfl, by show 0 ≤ reach; decide, HLL.out, HC1.out, HSL.out.sz, fun _ => ⟨g, 0, rfl, ⟨HG.out, fun _ q => J2.out.frozen q⟩, fun j y hj => ?_⟩, rfl, Nat.le_refl _, by show 0 * 96 ≤ reach; decide, fun h => absurd h (by show ¬ (0 < 0); omega)⟩, HEE.out⟩
          obtain ⟨p, hp⟩ : ∃ p, qs[j]? = some p := ⟨_, List.getElem?_eq_getElem (by have h1 := J2.out.len; have h2 := (List.getElem?_eq_some_iff.1 hj).1; simp only [Val.l] at h2; omega)⟩
          obtain ⟨z, hz, h1, _⟩ := J2.out.el j p hp
          have hzy : z = y := Option.some.inj (hz.symm.trans hj)
          subst hzy
          have hjl : j < i := by have h2 := (List.getElem?_eq_some_iff.1 hj).1; simp only [Val.l] at h2; have := HLL.out; omega
          exact ⟨p.1, vat_of fun q v hq => by rw [Nat.zero_add]; exact J2.out.cells hp hq, (h1 hjl).mono fun b hb => hb.1⟩
  case rest =>
    obtain ⟨hb0, hb1, hrl, hbe⟩ := hcut
    have HRL := Lib.hid hrl.lt
    have C0 := Lib.hid hb0
    have C1 := Lib.hid hb1
    have CE := Lib.hid hbe
    clear D0 D1 DE HOW hb0 hb1 hrl hbe BE k3
    generalize wc = w3 at *
    have hle3 : w.heap.size ≤ w3.heap.size := CE.out.size
    have hwa3 : wa.heap.size ≤ w3.heap.size := by have h1 := C1.out.lt; have h2 := HWA.out; omega
    have HCF := Lib.hid (cloneF_any fs DA dn dc w3 (HSD.out.sr.step CE.out) HSD.out.sz)
    have k4 := C0.out.cell 4
    have kz := C0.out.frozen
    simp at k4
    go_wp2_with fail
    refine HCF.out.mono ?_
    rintro e wz ⟨v2, rfl, hown, hb⟩
    obtain ⟨A2, c2, rfl, hc2⟩ := own_slice hown
    have C0' := Lib.hid (C0.out.step hb)
    have C1' := Lib.hid (C1.out.step hb)
    have CE' := Lib.hid (CE.out.step' hb)
    have HRL' := Lib.hid (HRL.out.step hb)
    have hsz := hb.size
    have hown2 := own_far hown (p := ⟨w.heap.size, 4, none⟩) (fun e => by have h1 : w3.heap.size ≤ w.heap.size := own_ge hown _ e; have h2 := HWA.out; omega) (.slice A2 dn c2)
    clear hb C0 C1 CE HCF k4 kz HRL
    have k4 := C0'.out.cell 4
    have kz := C0'.out.frozen
    simp at k4
    go_upto_region 8 with fail
    change Code.wp _ _ _ _ (wz.setCell ⟨w.heap.size, 4, none⟩ (.slice A2 dn c2))
    have D0 : Hid (Blk (wz.setCell ⟨w.heap.size, 4, none⟩ (.slice A2 dn c2)) w.heap.size 28 (VC.arr ⟨ck, cn, ct, A1, ln, c1, A2, dn, c2⟩)) := C0'.out.set_ 4 _
    have D1 : Hid (Blk (wz.setCell ⟨w.heap.size, 4, none⟩ (.slice A2 dn c2)) (w.heap.size + 1) 28 VC.zero.arr) := C1'.out.far (p := ⟨w.heap.size, 4, none⟩) (by show w.heap.size + 1 ≠ w.heap.size; omega) _
    have DE : Hid (Below w.heap.size w (wz.setCell ⟨w.heap.size, 4, none⟩ (.slice A2 dn c2))) := CE'.out.setCell (by show w.heap.size ≤ w.heap.size; omega) _
    have HRL4 : Hid (RV (fun b => wa.heap.size ≤ b ∧ b < w3.heap.size) (wz.setCell ⟨w.heap.size, 4, none⟩ (.slice A2 dn c2)) ⟨6, 0, ByteArray.empty, A1, ln, c1, none, 0, 0⟩ (.mk 6 0 ByteArray.empty l [])) := HRL'.out.keep fun b hb => Below.heap_setCell wz ⟨w.heap.size, 4, none⟩ _ b (by have := HWA.out; have := hb.1; show b ≠ w.heap.size; omega)
    have HW3 : Hid (w3.heap.size ≤ (wz.setCell ⟨w.heap.size, 4, none⟩ (.slice A2 dn c2)).heap.size) := by simpa [Hid, World.setCell] using hsz
    generalize wz.setCell ⟨w.heap.size, 4, none⟩ (.slice A2 dn c2) = w4 at *
    have HOW := Lib.hid hown2
    have HC2 := Lib.hid hc2
    clear hown hown2 k4 kz C0' C1' CE' hc2 HRL' hsz
    have k4 := D0.out.cell 4
    simp at k4
    go_upto_block 2 with fail
    go_cut [] (fun wx => Blk wx w.heap.size 28 (VC.arr ⟨ck, cn, ct, A1, ln, c1, A2, dn, c2⟩) ∧ Blk wx (w.heap.size + 1) 28 VC.zero.arr ∧ RV (fun b => wa.heap.size ≤ b) wx ⟨5, 0, ByteArray.empty, none, 0, 0, A2, dn, c2⟩ (.mk 5 0 ByteArray.empty [] d) ∧ Below w3.heap.size w4 wx)
    case first =>
      rcases Nat.eq_zero_or_pos dn with h0 | h0
      · subst h0
        go_upto_region 9 with fail
        go_loopw [4, 33] (fun _ u12 wr => u12 = .int .i64 0 ∧ wr = w4) (fun _ _ _ => 0)
        case atStart => exact ⟨rfl, rfl⟩
        case round =>
          obtain ⟨rfl, rfl⟩ := hrel
          go_wp2_with fail
          go_meet
          refine ⟨D0.out, D1.out, RVs.shut ⟨rfl, rfl, rfl, by show 0 ≤ reach; decide, rfl, Nat.le_refl _, by show 0 * 80 ≤ reach; decide, fun h => absurd h (by show ¬ (0 < 0); omega), HDD.out, HC2.out, by show 0 * 96 ≤ reach; decide, fun h => absurd h (by show ¬ (0 < 0); omega)⟩, Below.refl _ _⟩
      · obtain ⟨g, cap, hv, hgb, hgl⟩ := HOW.out.form h0
        cases hv
        obtain ⟨R, hR, _, _, _, _⟩ := own_blk HOW.out
        have HG3 : Hid (w3.heap.size ≤ g) := hgb
        have HG : Hid (wa.heap.size ≤ g) := by unfold Hid; omega
        have HNE : Hid (w.heap.size ≠ g ∧ w.heap.size + 1 ≠ g) := by have := HWA.out; exact ⟨by omega, by omega⟩
        have Q0 : Hid (CfI wa g d 0 fs w4) := ⟨⟨R, hR⟩, by rw [← HFS.out, List.length_map], fun j p hp => ⟨p.2, by rw [← HFS.out, List.getElem?_map, hp]; rfl, rfl, HSD.out.ns p (List.mem_of_getElem? hp), fun hj => absurd hj (by omega), fun _ => ((HSD.out.rv p (List.mem_of_getElem? hp)).lt.keep fun b hb => DE.out.block b hb.2).mono fun b hb => (by have := HWA.out; have := hb.2; omega : b < wa.heap.size)⟩⟩
        have HI := HID
        clear hR hgl hgb HLL
        have HLL := HDD
        go_upto_region 9 with fail
        clear k4
        go_loopw [4, 33] (fun _ u12 wr => ∃ (i : Nat) (qs : List PF), i ≤ dn ∧ u12 = .int .i64 i ∧ Blk wr w.heap.size 28 (VC.arr ⟨ck, cn, ct, A1, ln, c1, some ⟨g, 0, none⟩, dn, c2⟩) ∧ Blk wr (w.heap.size + 1) 28 VC.zero.arr ∧ CfI wa g d i qs wr ∧ Below w3.heap.size w4 wr) (fun _ u12 _ => dn - (intOf u12).toNat)
        case atStart => exact ⟨0, fs, Nat.zero_le _, rfl, D0.out, D1.out, Q0.out, Below.refl _ _⟩
        case round =>
          obtain ⟨i, qs, hi, rfl, E0, E1, J, EE⟩ := hrel
          have HE0 := Lib.hid E0
          have HE1 := Lib.hid E1
          have J2 := Lib.hid J
          have HEE := Lib.hid EE
          by_cases hlt : i < dn
          · obtain ⟨p, hp⟩ : ∃ p, qs[i]? = some p := ⟨_, List.getElem?_eq_getElem (by have h1 := J.len; have h2 := HLL.out; omega)⟩
            obtain ⟨y, hy, hys, hyz, _, hrv⟩ := J.el i p hp
            have HPI := Lib.hid hp
            have HY := Lib.hid hy
            have HYS := Lib.hid hys
            have HC := Lib.hid (HI.out y (List.mem_of_getElem? hy))
            have RP : Hid (RW wr p.1 y.v) := (hrv (Nat.le_refl _)).mono fun _ _ => trivial
            have lb0 := E0.lt
            have gl := J.lt
            have HWL : Hid (wa.heap.size ≤ wr.heap.size) := by have h1 := HG.out; unfold Hid; omega
            have i0' : (0 : Int) ≤ (i : Int) := by omega
            have i1' : (i : Int) < (dn : Int) := by omega
            have k3 := E0.cell 4
            simp at k3
            go_upto_region 11 with fail
            have B0' : Hid (Below wr.heap.size wr wr.drew) := Lib.hid ((Below.refl wr.heap.size wr).drew)
            have KC : Hid (∀ w' : World, Below wr.heap.size wr w' → w'.cell? ⟨w.heap.size, 4, none⟩ = some (.slice (some ⟨g, 0, none⟩) dn c2)) := Lib.hid fun w' hb => (hb.cell (p := ⟨w.heap.size, 4, none⟩) lb0).trans k3
            have KD : Hid (∀ (W : World) (e : VC), Below wr.heap.size wr W → (setV W g (i * 6 + 1) e).cell? ⟨w.heap.size, 4, none⟩ = some (.slice (some ⟨g, 0, none⟩) dn c2)) := Lib.hid fun W e hb => (World.cell?_of_block (w := W) (a := ⟨w.heap.size, 4, none⟩) (heap_setV HNE.out.1)).trans (KC.out W hb)
            clear hp hy hrv hys hyz E0 E1 J EE k3
            refine wp_region_noPanic ?_
            refine wp_region_held_drew (S := (fun w' => w'.cell? ⟨w.heap.size, 4, none⟩ = some (.slice (some ⟨g, 0, none⟩) dn c2))) (by kernel_rfl) ?_ (fun hHeld => ?_)
            · (try dsimp only); exact KC.out _ B0'.out
            have JW := Lib.hid (J2.out.step B0'.out)
            have y0 := JW.out.cells HPI.out (k := 1) rfl
            have y1 := JW.out.cells HPI.out (k := 2) rfl
            have y2 := JW.out.cells HPI.out (k := 3) rfl
            have y3 := JW.out.cells HPI.out (k := 4) rfl
            have y4 := JW.out.cells HPI.out (k := 5) rfl
            have HW0 : Hid (wr.heap.size = wr.drew.heap.size) := rfl
            generalize wr.drew = W0 at *
            have B := B0'
            refine wpAnyH_take (i := 0) (v := ?_) (take_at rfl) (by kernel_rfl) (by kernel_rfl) (by kernel_rfl) (fun _ _ _ h => h) (Or.inl ⟨by rfl, ?_⟩) (by assumption) ?_
            rotate_left
            · intro w' hSw; (try dsimp only at hSw); go_simp; (try with_reducible rfl)
            (try simp only [Act.put, List.setIfInBounds_toArray, List.set_cons_zero, List.set_cons_succ])
            refine wpAnyH_take (i := 1) (v := ?_) (take_at rfl) (by kernel_rfl) (by kernel_rfl) (by kernel_rfl) (fun _ _ _ h => h) (Or.inl ⟨by rfl, ?_⟩) (by assumption) ?_
            rotate_left
            · intro w' hSw; (try dsimp only at hSw); go_simp; (try with_reducible rfl)
            (try simp only [Act.put, List.setIfInBounds_toArray, List.set_cons_zero, List.set_cons_succ])
            refine wpAnyH_take (i := 2) (v := ?_) (take_at rfl) (by kernel_rfl) (by kernel_rfl) (by kernel_rfl) (fun _ _ _ h => h) (Or.inl ⟨by rfl, ?_⟩) (by assumption) ?_
            rotate_left
            · intro w' hSw; (try dsimp only at hSw); go_simp; (try with_reducible rfl)
            (try simp only [Act.put, List.setIfInBounds_toArray, List.set_cons_zero, List.set_cons_succ])
            refine wpAnyH_take (i := 3) (v := ?_) (take_at rfl) (by kernel_rfl) (by kernel_rfl) (by kernel_rfl) (fun _ _ _ h => h) (Or.inl ⟨by rfl, ?_⟩) (by assumption) ?_
            rotate_left
            · intro w' hSw; (try dsimp only at hSw); go_simp; (try with_reducible rfl)
            (try simp only [Act.put, List.setIfInBounds_toArray, List.set_cons_zero, List.set_cons_succ])
            refine wpAnyH_take (i := 4) (v := ?_) (take_at rfl) (by kernel_rfl) (by kernel_rfl) (by kernel_rfl) (fun _ _ _ h => h) (Or.inl ⟨by rfl, ?_⟩) (by assumption) ?_
            rotate_left
            · intro w' hSw; (try dsimp only at hSw); go_simp; (try with_reducible rfl)
            (try simp only [Act.put, List.setIfInBounds_toArray, List.set_cons_zero, List.set_cons_succ])
            refine wpAnyH_take (i := 5) (v := ?_) (take_at rfl) (by kernel_rfl) (by kernel_rfl) (by kernel_rfl) (fun _ _ _ h => h) (Or.inl ⟨by rfl, ?_⟩) (by assumption) ?_
            rotate_left
            · intro w' hSw; (try dsimp only at hSw); go_simp; (try with_reducible rfl)
            (try simp only [Act.put, List.setIfInBounds_toArray, List.set_cons_zero, List.set_cons_succ])
            refine wpAnyH_take (i := 6) (v := ?_) (take_at rfl) (by kernel_rfl) (by kernel_rfl) (by kernel_rfl) (fun _ _ _ h => h) (Or.inl ⟨by rfl, ?_⟩) (by assumption) ?_
            rotate_left
            · intro w' hSw; (try dsimp only at hSw); go_simp; (try with_reducible rfl)
            (try simp only [Act.put, List.setIfInBounds_toArray, List.set_cons_zero, List.set_cons_succ])
            refine wpAnyH_take (i := 7) (v := ?_) (take_at rfl) (by kernel_rfl) (by kernel_rfl) (by kernel_rfl) (fun _ _ _ h => h) (Or.inl ⟨by rfl, ?_⟩) (by assumption) ?_
            rotate_left
            · intro w' hSw; (try dsimp only at hSw); go_simp; (try with_reducible rfl)
            (try simp only [Act.put, List.setIfInBounds_toArray, List.set_cons_zero, List.set_cons_succ])
            refine wpAnyH_ready (rs := [8]) (by kernel_rfl) (by simp) ?_
            refine AllReadyH.cons (take_at rfl) (fun K hK => ?_) AllReadyH.nil
            go_simp
            refine hK.out _ _ ?_ (fun hHeld2 => ?_)
            · (try dsimp only); exact KC.out _ B.out
            clear hK K hHeld
            have hHeld := hHeld2
            clear hHeld2
            (try simp only [Act.put, List.setIfInBounds_toArray, List.set_cons_zero, List.set_cons_succ])
            clear y0 y1 y2 y3 y4 JW
            refine wpAnyH_ready (rs := [9]) (by kernel_rfl) (by simp) ?_
            refine AllReadyH.cons (take_at rfl) (fun K hK => ?_) AllReadyH.nil
            go_simp
            refine (HC.out p.1 W0 (RP.out.step B.out)).mono ?_
            rintro e W1 ⟨c9, rfl, hr, hb⟩
            have R9 := Lib.hid hr
            have BW := Lib.hid hb
            replace B := Lib.hid (B.out.step' hb)
            clear hb hr
            (try go_wp2_with fail)
            refine hK.out _ _ ?_ (fun hHeld2 => ?_)
            · (try dsimp only); exact KC.out _ B.out
            clear hK K hHeld
            have hHeld := hHeld2
            clear hHeld2
            (try simp only [Act.put, List.setIfInBounds_toArray, List.set_cons_zero, List.set_cons_succ])
            refine wpAnyH_take (i := 10) (v := ?_) (take_at rfl) (by kernel_rfl) (by kernel_rfl) (by kernel_rfl) (fun _ _ _ h => h) (Or.inl ⟨by rfl, ?_⟩) (by assumption) ?_
            rotate_left
            · intro w' hSw; (try dsimp only at hSw); go_simp; (try with_reducible rfl)
            (try simp only [Act.put, List.setIfInBounds_toArray, List.set_cons_zero, List.set_cons_succ])
            refine wpAnyH_take (i := 11) (v := ?_) (take_at rfl) (by kernel_rfl) (by kernel_rfl) (by kernel_rfl) (fun _ _ _ h => h) (Or.inl ⟨by rfl, ?_⟩) (by assumption) ?_
            rotate_left
            · intro w' hSw; (try dsimp only at hSw); go_simp; (try with_reducible rfl)
            (try simp only [Act.put, List.setIfInBounds_toArray, List.set_cons_zero, List.set_cons_succ])
            refine wpAnyH_ready (rs := [12]) (by kernel_rfl) (by simp) ?_
            refine AllReadyH.cons (take_at rfl) (fun K hK => ?_) AllReadyH.nil
            have J9 := Lib.hid (J2.out.step B.out)
            have z9 := J9.out.frozen
            have y0 := J9.out.cells HPI.out (k := 1) rfl
            have y1 := J9.out.cells HPI.out (k := 2) rfl
            have y2 := J9.out.cells HPI.out (k := 3) rfl
            have y3 := J9.out.cells HPI.out (k := 4) rfl
            have y4 := J9.out.cells HPI.out (k := 5) rfl
            go_simp
            refine hK.out _ _ (KD.out W1 c9 B.out) (fun hHeld2 => ?_)
            clear hHeld hHeld2 hK K y0 y1 y2 y3 y4 z9
            (try simp only [Act.put, List.setIfInBounds_toArray, List.set_cons_zero, List.set_cons_succ])
            refine wpAnyH_done (by kernel_rfl) ?_ _
            refine NoPanic.normal ?_
            have HN : Hid (CfI wa g d (i + 1) (qs.set i (c9, p.2)) (setV W1 g (i * 6 + 1) c9)) := (J2.out.step B.out).put HPI.out HY.out HG.out HYS.out (R9.out.mono fun b hb => by have h2 := HW0.out; have hb' : W0.heap.size ≤ b := hb; exact ⟨by have := HWL.out; omega, by omega⟩)
            have HN0 := Lib.hid ((HE0.out.step B.out).farV (b := g) HNE.out.1 (i * 6 + 1) c9)
            have HN1 := Lib.hid ((HE1.out.step B.out).farV (b := g) HNE.out.2 (i * 6 + 1) c9)
            have HNB := Lib.hid (below_setV (HEE.out.step' B.out (by have := HW3.out; omega)) (B := w3.heap.size) HG3.out (i * 6 + 1) c9)
            clear R9 BW B HE0 HE1 HEE J2 RP HC KC KD
            go_wp2_with fail
            go_roundw
            case rel => exact ⟨i + 1, _, hlt, by go_num, HN0.out, HN1.out, HN.out, HNB.out⟩
            case measure => simp [intOf]; omega
          · obtain rfl : i = dn := by omega
            clear E0 E1 J EE
            go_wp2_with fail
            go_meet
            refine ⟨HE0.out, HE1.out, RVs.shut ⟨rfl, rfl, rfl, by show 0 ≤ reach; decide, rfl, Nat.le_refl _, by show 0 * 80 ≤ reach; decide, fun h => absurd h (by show ¬ (0 < 0); omega), HDD.out, HC2.out, HSD.out.sz, fun _ => ⟨g, 0, rfl, ⟨HG.out, fun _ q => J2.out.frozen q⟩, fun j y hj => ?_⟩⟩, HEE.out⟩
            obtain ⟨p, hp⟩ : ∃ p, qs[j]? = some p := ⟨_, List.getElem?_eq_getElem (by have h1 := J2.out.len; have h2 := (List.getElem?_eq_some_iff.1 hj).1; simp only [Val.d] at h2; omega)⟩
            obtain ⟨z, hz, hzs, hzz, h1, _⟩ := J2.out.el j p hp
            have hzy : z = y := Option.some.inj (hz.symm.trans hj)
            subst hzy
            have hjl : j < i := by have h2 := (List.getElem?_eq_some_iff.1 hj).1; simp only [Val.d] at h2; have := HDD.out; omega
            refine ⟨by rw [Nat.zero_add, hzs]; exact J2.out.cells hp (k := 0) rfl, by rw [hzs]; exact hzz, p.1, vat_of fun q v hq => ?_, (h1 hjl).mono fun b hb => hb.1⟩
            have := J2.out.cells hp (k := q + 1) (by simpa [recF] using hq)
            rw [show 0 + j * 6 + 1 + q = j * 6 + (q + 1) by omega]
            exact this
    case rest =>
      obtain ⟨hb0, hb1, hrd, hbe⟩ := hcut
      have HRD := Lib.hid hrd
      have E0 := Lib.hid hb0
      have E1 := Lib.hid hb1
      have HRL5 := Lib.hid (HRL4.out.keep fun b hb => hbe.block b hb.2)
      have EE := Lib.hid (DE.out.trans (hbe.mono hle3))
      clear D0 D1 DE HOW hb0 hb1 hrd hbe k4 HRL4
      generalize wc = w5 at *
      obtain ⟨a0, a1, a2, a3, a4⟩ := VAt.of_blk E0.out
      simp only [Nat.zero_add] at a0 a1 a2 a3 a4
      obtain ⟨b0, b1, b2, b3, b4⟩ := VAt.of_blk E1.out
      simp only [Nat.zero_add] at b0 b1 b2 b3 b4
      have bz := E1.out.frozen
      go_wp2_with fail
      have q := VAt.of_blk (E1.out.putV ⟨ck, cn, ct, A1, ln, c1, A2, dn, c2⟩)
      refine bodyPost_ret (results_val rfl _ _ _ rfl _ ⟨ck, cn, ct, A1, ln, c1, A2, dn, c2⟩ q) rfl ?_
      have hj := copy_join HO.out.k HO.out.n HO.out.t HO.out.tsz (HRL5.out.mono fun b hb => hb.1) HRD.out
      have hle : w.heap.size + 2 ≤ wa.heap.size := by rw [HWA.out]; exact Nat.le_refl _
      have hk := hj.keepG (G := fun b => w.heap.size ≤ b) (w' := setV w5 (w.heap.size + 1) 0 ⟨ck, cn, ct, A1, ln, c1, A2, dn, c2⟩) (copy_far hle)
      exact ⟨⟨ck, cn, ct, A1, ln, c1, A2, dn, c2⟩, rfl, hk, below_setV (b := w.heap.size + 1) EE.out (Nat.le_add_right _ _) 0 ⟨ck, cn, ct, A1, ln, c1, A2, dn, c2⟩⟩

end Go.Proofs.YtblepmmibhphhaaGreatDoor

