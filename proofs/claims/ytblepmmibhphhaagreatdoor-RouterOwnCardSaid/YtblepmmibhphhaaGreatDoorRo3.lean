/- Parts of the proof, joined: RoRoute, RoCopy, RoOwn, RoAwPure, RoAwake, ChNamed, ChValid. -/
import Derived.Test.YtblepmmibhphhaaGreatDoorRo2
import Derived.Test.YtblepmmibhphhaaGreatDoorB8
import Derived.Test.YtblepmmibhphhaaGreatDoorRo1
import Derived.Test.YtblepmmibhphhaaGreatDoorB12
import Derived.Test.YtblepmmibhphhaaGreatDoorB18
import Derived.Test.YtblepmmibhphhaaGreatDoorB5
import Derived.Test.YtblepmmibhphhaaGreatDoorB11
import Derived.Deep.RegionHeld3
/- The contracts of router.Route and of the reference's Route. Printed by gen_roroute.py. -/
namespace Go.Proofs.YtblepmmibhphhaaGreatDoor
open Go.RowKit

noncomputable def rouR (R : Ro) (x : Val) : Int × Int := if (encR R.ks R.ha x).2 = 0 then (if idxI (inB (encR R.ks R.ha x).1) R.cs < 0 then 0 else ownC R (encR R.ks R.ha x).1, 0) else (0, (encR R.ks R.ha x).2)
noncomputable def rrouR (R : Ro) (x : Val) : Int × Int := if (rencR R.ks R.ha x).2 = 0 then (ownC R (rencR R.ks R.ha x).1, 0) else (0, (rencR R.ks R.ha x).2)
/-- every key of valid routes has a chunk -/
theorem VR.found {R : Ro} (h : VR R) (key : ByteArray) : ∃ (i : Nat) (c : Ch), idxI (inB key) R.cs = (i : Nat) ∧ R.cs[i]? = some c ∧ inB key c = true ∧ ownC R key = c.sh ∧ 0 ≤ c.sh ∧ c.sh < 8 := by
  obtain ⟨c, hm, hk⟩ := h.cn.ex key (bl_nil _) trivial
  rcases own_ways R key with ⟨h1, _⟩ | ⟨i, d, h1, h2, h3, h4⟩
  · exfalso
    rcases idxI_range (inB key) R.cs with ⟨_, h5⟩ | ⟨i, d, h5, _⟩
    · rw [h5 c hm] at hk; cases hk
    · rw [h1] at h5; omega
  · have hg := h.good d (List.mem_of_getElem? h2)
    exact ⟨i, d, h1, h2, h3, h4, hg.1, hg.2.1⟩
theorem VR.owns {R : Ro} (h : VR R) (s : Int) (key : ByteArray) : ownsB R s key = rownsB R s key := by
  obtain ⟨i, c, h1, _, _, h4, h5, _⟩ := h.found key
  unfold ownsB rownsB
  rw [h1, h4, decide_eq_true (by omega)]
  by_cases hs : c.sh = s
  · rw [decide_eq_true (by omega)]
  · have : (c.sh == s) = false := by simpa using hs
    rw [this, Bool.and_false, Bool.and_false]
theorem VR.route {R : Ro} (h : VR R) (x : Val) : rouR R x = rrouR R x := by
  have hk := keyE_parts h.ke
  unfold rouR rrouR
  rw [enc_same hk.2.2]
  split
  · obtain ⟨i, c, h1, _⟩ := h.found (encR R.ks R.ha x).1
    rw [h1, if_neg (by omega)]
  · rfl

set_option maxRecDepth 100000 in
set_option maxHeartbeats 1000000 in
theorem route_any (R : Ro) (a : RA) (x : Val) (c : VC) (w : World) (hT : Tabs w) (h : RR w a R) (hx : RW w c x) (h8 : R.ks.length ≤ 8) :
    Calls Tryz.prog 22 #[rval a R, c.val] w fun e w' => e = .returned (.tuple #[.int .i64 (rouR R x).1, .int .i64 (rouR R x).2]) ∧ Below w.heap.size w w' := by
  have HV := Lib.hid fun (key : ByteArray) (wr : World) (hb : Below w.heap.size w wr) => cfind_any R a key wr (h.step hb)
  obtain ⟨KA, kn, kc, CA, cn, cc⟩ := a
  have H := Lib.hid h
  have hn : Hid (cn = R.cs.length) := h.cs.ln
  have hcz : cn * 56 ≤ reach := h.cs.sz
  have hkn : cn ≤ 140737488355328 := by unfold reach at hcz; omega
  have HE := Lib.hid fun (wr : World) (hb : Below w.heap.size w wr) => senc_any R.ks R.ha KA kn kc x c wr (hT.step hb) (h.ks.step hb) (hx.step hb) h8
  clear h hcz hx hT
  obtain ⟨⟨K1, K2⟩, hK⟩ : ∃ K, encR R.ks R.ha x = K := ⟨_, rfl⟩
  rw [hK] at HE
  have HK := Lib.hid hK
  clear hK
  have B0 : Hid (Blk ((w.alloc (Obj.cells (rarr ⟨KA, kn, kc, CA, cn, cc⟩ R) 45)).alloc (Obj.cells c.arr 28)) w.heap.size 45 (rarr ⟨KA, kn, kc, CA, cn, cc⟩ R)) := (Blk.new_at rfl).alloc _
  have B1 : Hid (Blk ((w.alloc (Obj.cells (rarr ⟨KA, kn, kc, CA, cn, cc⟩ R) 45)).alloc (Obj.cells c.arr 28)) (w.heap.size + 1) 28 c.arr) := Blk.new_at (by simp)
  have BE : Hid (Below w.heap.size w ((w.alloc (Obj.cells (rarr ⟨KA, kn, kc, CA, cn, cc⟩ R) 45)).alloc (Obj.cells c.arr 28))) := ((Below.refl _ _).alloc (Nat.le_refl _) _).alloc (by simp) _
  go_enter Tryz.func22, Tryz.ntmps22
  go_upto_region 1 with fail
  change Code.wp _ _ _ _ ((w.alloc (Obj.cells (rarr ⟨KA, kn, kc, CA, cn, cc⟩ R) 45)).alloc (Obj.cells c.arr 28))
  generalize ((w.alloc (Obj.cells (rarr ⟨KA, kn, kc, CA, cn, cc⟩ R) 45)).alloc (Obj.cells c.arr 28)) = wa at *
  obtain ⟨q0, q1, q2, q3, q4, q5, qz⟩ := blk_ro B0.out
  simp only at q1 q5
  obtain ⟨a0, a1, a2, a3, a4⟩ := VAt.of_blk B1.out
  simp only [Nat.zero_add] at a0 a1 a2 a3 a4
  go_wp2_with fail
  refine (HE.out wa BE.out).mono ?_
  rintro e w1 ⟨rfl, hb⟩
  have CE := Lib.hid (BE.out.step' hb)
  have C0 := Lib.hid (B0.out.step hb)
  clear hb BE B0 B1 HE q0 q1 q2 q3 q4 q5 qz a0 a1 a2 a3 a4
  by_cases hk : K2 = 0
  rotate_left
  · have hkb : (K2 != 0) = true := by simpa using hk
    have HF : Hid (rouR R x = (0, K2)) := by unfold Hid rouR; rw [HK.out]; exact if_neg hk
    clear hk
    go_wp2_with fail
    go_ret2
    exact ⟨by rw [HF.out]; rfl, CE.out⟩
  subst hk
  obtain ⟨q0, q1, q2, q3, q4, q5, qz⟩ := blk_ro C0.out
  simp only at q1 q5
  have HV1 := Lib.hid (HV.out K1 w1 CE.out)
  rcases own_ways R K1 with ⟨h1, h2⟩ | ⟨i, ch, h1, hi, _, h2⟩
  · have HF : Hid (rouR R x = (0, 0)) := by unfold Hid rouR; rw [HK.out]; simp only [if_true]; rw [h1]; rfl
    rw [h1] at HV1
    clear h1 h2
    go_wp2_with fail
    refine HV1.out.mono ?_
    rintro e w2 ⟨rfl, hb⟩
    have DE := Lib.hid (CE.out.step' hb)
    clear hb HV1 CE C0 q0 q1 q2 q3 q4 q5 qz
    go_wp2_with fail
    go_ret2
    exact ⟨by rw [HF.out]; rfl, DE.out⟩
  · have HF : Hid (rouR R x = (ch.sh, 0)) := by unfold Hid rouR; rw [HK.out]; simp only [if_true]; rw [h1, if_neg (by omega), h2]
    rw [h1] at HV1
    clear h1 h2
    have hlt : i < cn := by have := (List.getElem?_eq_some_iff.1 hi).1; have := hn.out; omega
    go_wp2_with fail
    refine HV1.out.mono ?_
    rintro e w2 ⟨rfl, hb⟩
    have DE := Lib.hid (CE.out.step' hb)
    have D0 := Lib.hid (C0.out.step hb)
    clear hb HV1 CE C0 q0 q1 q2 q3 q4 q5 qz
    obtain ⟨q0, q1, q2, q3, q4, q5, qz⟩ := blk_ro D0.out
    simp only at q1 q5
    obtain ⟨b, off, y, hA, hb, hx, e0, e1, e2, e3, e4⟩ := H.out.cs.sr.at5 hlt
    simp only at hA
    subst hA
    obtain rfl : y = ch := Option.some.inj (hx.symm.trans hi)
    have g2 := (DE.out.cell (p := ⟨b, off + i * 5 + 2, none⟩) hb).trans e2
    have i0' : (0 : Int) ≤ (i : Int) := by omega
    have i1' : (i : Int) < (cn : Int) := by omega
    clear hx hi e0 e1 e2 e3 e4 D0
    go_wp2_with fail
    go_ret2
    exact ⟨by rw [HF.out]; rfl, DE.out⟩

set_option maxRecDepth 100000 in
set_option maxHeartbeats 1000000 in
theorem rroute_any (R : Ro) (a : RA) (x : Val) (c : VC) (w : World) (h : RR w a R) (hx : RW w c x) (h8 : R.ks.length ≤ 8) :
    Calls Tryz.prog 23 #[rval a R, c.val] w fun e w' => e = .returned (.tuple #[.int .i64 (rrouR R x).1, .int .i64 (rrouR R x).2]) ∧ Below w.heap.size w w' := by
  have HV := Lib.hid fun (key : ByteArray) (wr : World) (hb : Below w.heap.size w wr) => rowner_any R a key wr (h.step hb)
  obtain ⟨KA, kn, kc, CA, cn, cc⟩ := a
  have H := Lib.hid h
  have hn : Hid (cn = R.cs.length) := h.cs.ln
  have hcz : cn * 56 ≤ reach := h.cs.sz
  have hkn : cn ≤ 140737488355328 := by unfold reach at hcz; omega
  have HE := Lib.hid fun (wr : World) (hb : Below w.heap.size w wr) => rsenc_any R.ks R.ha KA kn kc x c wr (h.ks.step hb) (hx.step hb) h8
  clear h hcz hx
  obtain ⟨⟨K1, K2⟩, hK⟩ : ∃ K, rencR R.ks R.ha x = K := ⟨_, rfl⟩
  rw [hK] at HE
  have HK := Lib.hid hK
  clear hK
  have B0 : Hid (Blk ((w.alloc (Obj.cells (rarr ⟨KA, kn, kc, CA, cn, cc⟩ R) 45)).alloc (Obj.cells c.arr 28)) w.heap.size 45 (rarr ⟨KA, kn, kc, CA, cn, cc⟩ R)) := (Blk.new_at rfl).alloc _
  have B1 : Hid (Blk ((w.alloc (Obj.cells (rarr ⟨KA, kn, kc, CA, cn, cc⟩ R) 45)).alloc (Obj.cells c.arr 28)) (w.heap.size + 1) 28 c.arr) := Blk.new_at (by simp)
  have BE : Hid (Below w.heap.size w ((w.alloc (Obj.cells (rarr ⟨KA, kn, kc, CA, cn, cc⟩ R) 45)).alloc (Obj.cells c.arr 28))) := ((Below.refl _ _).alloc (Nat.le_refl _) _).alloc (by simp) _
  go_enter Tryz.func23, Tryz.ntmps23
  go_upto_region 1 with fail
  change Code.wp _ _ _ _ ((w.alloc (Obj.cells (rarr ⟨KA, kn, kc, CA, cn, cc⟩ R) 45)).alloc (Obj.cells c.arr 28))
  generalize ((w.alloc (Obj.cells (rarr ⟨KA, kn, kc, CA, cn, cc⟩ R) 45)).alloc (Obj.cells c.arr 28)) = wa at *
  obtain ⟨q0, q1, q2, q3, q4, q5, qz⟩ := blk_ro B0.out
  simp only at q1 q5
  obtain ⟨a0, a1, a2, a3, a4⟩ := VAt.of_blk B1.out
  simp only [Nat.zero_add] at a0 a1 a2 a3 a4
  go_wp2_with fail
  refine (HE.out wa BE.out).mono ?_
  rintro e w1 ⟨rfl, hb⟩
  have CE := Lib.hid (BE.out.step' hb)
  have C0 := Lib.hid (B0.out.step hb)
  clear hb BE B0 B1 HE q0 q1 q2 q3 q4 q5 qz a0 a1 a2 a3 a4
  by_cases hk : K2 = 0
  rotate_left
  · have hkb : (K2 != 0) = true := by simpa using hk
    have HF : Hid (rrouR R x = (0, K2)) := by unfold Hid rrouR; rw [HK.out]; exact if_neg hk
    clear hk
    go_wp2_with fail
    go_ret2
    exact ⟨by rw [HF.out]; rfl, CE.out⟩
  subst hk
  obtain ⟨q0, q1, q2, q3, q4, q5, qz⟩ := blk_ro C0.out
  simp only at q1 q5
  have HF : Hid (rrouR R x = (ownC R K1, 0)) := by unfold Hid rrouR; rw [HK.out]; exact if_pos rfl
  obtain ⟨V, hV⟩ : ∃ V, V = ownC R K1 := ⟨_, rfl⟩
  have HV1 := Lib.hid (HV.out K1 w1 CE.out)
  rw [← hV] at HF HV1
  clear hV
  go_wp2_with fail
  refine HV1.out.mono ?_
  rintro e w2 ⟨rfl, hb⟩
  have DE := Lib.hid (CE.out.step' hb)
  clear hb HV1 CE C0 q0 q1 q2 q3 q4 q5 qz
  go_wp2_with fail
  go_ret2
  exact ⟨by rw [HF.out]; rfl, DE.out⟩

end Go.Proofs.YtblepmmibhphhaaGreatDoor


/- The contract of router.copied. Printed by gen_rocopy.py. -/
namespace Go.Proofs.YtblepmmibhphhaaGreatDoor
open Go.RowKit

set_option maxHeartbeats 1000000 in
theorem cloneV_any (xs : List PV) (A : Option Addr) (n c : Nat) (w : World) (h : SR 5 recV w A n c xs) (hn : n * 80 ≤ reach) :
    Calls Tryz.prog 96 #[.slice A n c] w fun e w' => ∃ v, e = .returned v ∧ w'.ownsRow w.heap.size 28 5 v n (flat recV xs) ∧ Below w.heap.size w w' := by
  obtain ⟨j0, hj0, hy0, hy1, hy2⟩ := info_parts info_value
  have HL := Lib.hid h.ln
  unfold reach at hn
  cases A with
  | none =>
    have h0 : n = 0 := by
      rcases Nat.eq_zero_or_pos n with h0 | h0
      · exact h0
      · obtain ⟨b, off, e, _⟩ := h.el h0; cases e
    subst h0
    have HX : Hid (xs = []) := List.eq_nil_of_length_eq_zero HL.out.symm
    clear h
    have kn := fun (w : World) => Lib.run_eql_slice_nil (P := Tryz.prog) w 25 28 none 0 c 0 0 Tryz.underlying25
    go_enter Tryz.func96, Tryz.ntmps96
    go_wp2_with fail
    go_ret
    exact ⟨_, rfl, by rw [HX.out]; exact own_nil _ _ _ _, Below.refl _ _⟩
  | some ad =>
    have HR := Lib.hid (h.reads recV_length (by omega))
    have hO : (w.alloc (Obj.cells #[] 28)).ownsRow w.heap.size 28 5 (.slice (some ⟨w.heap.size, 0, none⟩) 0 0) 0 [] :=
      ⟨rfl, .inr ⟨w.heap.size, 0, #[], rfl, Nat.le_refl _, Blk.new_at rfl, Nat.le_refl _, Nat.zero_le _, rfl, rfl⟩⟩
    have HO := Lib.hid hO
    have H1 := Lib.hid (flat_one recV_one xs)
    clear h hO
    have kn := fun (w : World) => Lib.run_eql_slice_nil (P := Tryz.prog) w 25 28 (some ad) n c 0 0 Tryz.underlying25
    go_enter Tryz.func96, Tryz.ntmps96
    go_wp2_with (at_builtin; refine wpList_append_any _ rfl _ _ 25 rfl w.heap.size 28 j0 VC.zero.val 5 80 Tryz.underlying25 hj0 hy0 hy1 hy2 rfl (by decide) (.slice (some ⟨w.heap.size, 0, none⟩) 0 0) 0 [] rfl HO.out w.heap.size (some ad) n c (flat recV xs) rfl (HR.out.alloc (Nat.le_refl _) _) H1.out (by unfold maxLen; omega) (by omega) (by simp) ?_)
    intro v' w2 hown hg _
    go_wp2_with fail
    go_ret
    refine ⟨v', rfl, by simpa using hown, ?_⟩
    exact ((Below.refl w.heap.size w).alloc (Nat.le_refl _) _).grown hg (by simp) (fun k hk => by simp [Value.ownBlock] at hk; omega)

set_option maxHeartbeats 1000000 in
theorem cloneF_any (xs : List PF) (A : Option Addr) (n c : Nat) (w : World) (h : SR 6 recF w A n c xs) (hn : n * 96 ≤ reach) :
    Calls Tryz.prog 97 #[.slice A n c] w fun e w' => ∃ v, e = .returned v ∧ w'.ownsRow w.heap.size 69 6 v n (flat recF xs) ∧ Below w.heap.size w w' := by
  obtain ⟨j0, hj0, hy0, hy1, hy2⟩ := info_parts info_field
  have HL := Lib.hid h.ln
  unfold reach at hn
  cases A with
  | none =>
    have h0 : n = 0 := by
      rcases Nat.eq_zero_or_pos n with h0 | h0
      · exact h0
      · obtain ⟨b, off, e, _⟩ := h.el h0; cases e
    subst h0
    have HX : Hid (xs = []) := List.eq_nil_of_length_eq_zero HL.out.symm
    clear h
    have kn := fun (w : World) => Lib.run_eql_slice_nil (P := Tryz.prog) w 26 69 none 0 c 0 0 Tryz.underlying26
    go_enter Tryz.func97, Tryz.ntmps97
    go_wp2_with fail
    go_ret
    exact ⟨_, rfl, by rw [HX.out]; exact own_nil _ _ _ _, Below.refl _ _⟩
  | some ad =>
    have HR := Lib.hid (h.reads recF_length (by omega))
    have hO : (w.alloc (Obj.cells #[] 69)).ownsRow w.heap.size 69 6 (.slice (some ⟨w.heap.size, 0, none⟩) 0 0) 0 [] :=
      ⟨rfl, .inr ⟨w.heap.size, 0, #[], rfl, Nat.le_refl _, Blk.new_at rfl, Nat.le_refl _, Nat.zero_le _, rfl, rfl⟩⟩
    have HO := Lib.hid hO
    have H1 := Lib.hid (flat_one recF_one xs)
    clear h hO
    have kn := fun (w : World) => Lib.run_eql_slice_nil (P := Tryz.prog) w 26 69 (some ad) n c 0 0 Tryz.underlying26
    go_enter Tryz.func97, Tryz.ntmps97
    go_wp2_with (at_builtin; refine wpList_append_any _ rfl _ _ 26 rfl w.heap.size 69 j0 (.agg (#[.string ByteArray.empty] ++ VC.zero.arr)) 6 96 Tryz.underlying26 hj0 hy0 hy1 hy2 rfl (by decide) (.slice (some ⟨w.heap.size, 0, none⟩) 0 0) 0 [] rfl HO.out w.heap.size (some ad) n c (flat recF xs) rfl (HR.out.alloc (Nat.le_refl _) _) H1.out (by unfold maxLen; omega) (by omega) (by simp) ?_)
    intro v' w2 hown hg _
    go_wp2_with fail
    go_ret
    refine ⟨v', rfl, by simpa using hown, ?_⟩
    exact ((Below.refl w.heap.size w).alloc (Nat.le_refl _) _).grown hg (by simp) (fun k hk => by simp [Value.ownBlock] at hk; omega)

/-- a row of values, of which the first i are copies -/
structure CqI (w : World) (g : Nat) (l : List Val) (i : Nat) (ps : List PV) (wr : World) : Prop where
  row : ∃ R : List Value, Blk wr g 28 (flat recV ps ++ R).toArray
  len : ps.length = l.length
  el : ∀ (j : Nat) (p : PV), ps[j]? = some p → ∃ y, l[j]? = some y ∧ (j < i → RV (fun b => w.heap.size ≤ b ∧ b ≠ g) wr p.1 y) ∧ (i ≤ j → RV (fun b => b < w.heap.size) wr p.1 y)
theorem CqI.lt {w : World} {g : Nat} {l : List Val} {i : Nat} {ps : List PV} {wr : World} (h : CqI w g l i ps wr) : g < wr.heap.size := by
  obtain ⟨R, hR⟩ := h.row
  exact hR.lt
theorem CqI.step {w : World} {g : Nat} {l : List Val} {i : Nat} {ps : List PV} {wr w' : World} (h : CqI w g l i ps wr) (hb : Below wr.heap.size wr w') : CqI w g l i ps w' := by
  obtain ⟨R, hR⟩ := h.row
  refine ⟨⟨R, hR.step hb⟩, h.len, fun j p hp => ?_⟩
  obtain ⟨y, hy, h1, h2⟩ := h.el j p hp
  exact ⟨y, hy, fun hj => (h1 hj).step hb, fun hj => (h2 hj).step hb⟩
theorem CqI.cells {w : World} {g : Nat} {l : List Val} {i : Nat} {ps : List PV} {wr : World} (h : CqI w g l i ps wr) {j : Nat} {p : PV} (hp : ps[j]? = some p) {k : Nat} {v : Value} (hk : (recV p)[k]? = some v) : wr.cell? ⟨g, j * 5 + k, none⟩ = some v := by
  obtain ⟨R, hR⟩ := h.row
  rw [hR.cell]
  have h1 := flat_get recV_length hp hk
  have h2 : j * 5 + k < (flat recV ps).length := (List.getElem?_eq_some_iff.1 h1).1
  rw [List.getElem?_toArray, List.getElem?_append_left h2]
  exact h1
theorem CqI.frozen {w : World} {g : Nat} {l : List Val} {i : Nat} {ps : List PV} {wr : World} (h : CqI w g l i ps wr) (k : Nat) : wr.frozen? ⟨g, k, none⟩ = false := by
  obtain ⟨R, hR⟩ := h.row
  exact hR.frozen k
theorem CqI.put {w : World} {g : Nat} {l : List Val} {i : Nat} {ps : List PV} {wr : World} {c' : VC} {p : PV} {y : Val} (h : CqI w g l i ps wr) (hp : ps[i]? = some p) (hy : l[i]? = some y) (hg : w.heap.size ≤ g) (hr : RV (fun b => w.heap.size ≤ b ∧ b ≠ g) wr c' y) :
    CqI w g l (i + 1) (ps.set i (c', y)) (setV wr g (i * 5) c') := by
  have hi : i < ps.length := (List.getElem?_eq_some_iff.1 hp).1
  obtain ⟨R, hR⟩ := h.row
  refine ⟨⟨R, ?_⟩, by rw [List.length_set]; exact h.len, fun j q hq => ?_⟩
  · have h1 : Blk (wr.setCells g (i * 5) c'.list) g 28 (setList (flat recV ps ++ R) (i * 5) c'.list).toArray := hR.setCells c'.list (i * 5)
    have hf : (flat recV ps).length = ps.length * 5 := flat_length recV_length ps
    have hm : (i + 1) * 5 ≤ ps.length * 5 := Nat.mul_le_mul_right _ hi
    have e1 : setList (flat recV ps ++ R) (i * 5) c'.list = flat recV (ps.set i (c', y)) ++ R := by
      rw [setList_eq _ _ _ (by rw [List.length_append, hf]; simp [VC.list]; omega)]
      have e2 : (flat recV ps ++ R).take (i * 5) = flat recV (ps.take i) := by
        rw [List.take_append_of_le_length (by rw [hf]; omega)]
        exact flat_take recV_length ps i
      have e3 : (flat recV ps ++ R).drop (i * 5 + c'.list.length) = flat recV (ps.drop (i + 1)) ++ R := by
        rw [show i * 5 + c'.list.length = (i + 1) * 5 by simp [VC.list]; omega, List.drop_append_of_le_length (by rw [hf]; exact hm), flat_drop recV_length]
      rw [e2, e3, List.set_eq_take_append_cons_drop, if_pos hi, flat_append]
      have e4 : flat recV ((c', y) :: ps.drop (i + 1)) = recV (c', y) ++ flat recV (ps.drop (i + 1)) := rfl
      rw [e4]
      simp [recV]
    rw [← e1]
    exact h1
  · have keep : ∀ {G : Nat → Prop} {e : VC} {z : Val}, RV G wr e z → (∀ b, G b → b ≠ g) → RV G (setV wr g (i * 5) c') e z := fun hz hG => hz.keep fun b hb => heap_setV (hG b hb)
    by_cases hj : j = i
    · subst hj
      rw [List.getElem?_set_self hi] at hq
      cases hq
      skip
      exact ⟨y, hy, fun _ => keep hr fun b hb => hb.2, fun h' => by omega⟩
    · rw [List.getElem?_set_ne (fun e => hj e.symm)] at hq
      obtain ⟨z, hz, h1, h2⟩ := h.el j q hq
      exact ⟨z, hz, fun h' => keep (h1 (by omega)) fun b hb => hb.2, fun h' => keep (h2 (by omega)) fun b hb => by omega⟩
/-- a row of fields, of which the first i are copies -/
structure CfI (w : World) (g : Nat) (l : List Fld) (i : Nat) (ps : List PF) (wr : World) : Prop where
  row : ∃ R : List Value, Blk wr g 69 (flat recF ps ++ R).toArray
  len : ps.length = l.length
  el : ∀ (j : Nat) (p : PF), ps[j]? = some p → ∃ y, l[j]? = some y ∧ y.s = p.2.s ∧ p.2.s.size ≤ reach ∧ (j < i → RV (fun b => w.heap.size ≤ b ∧ b ≠ g) wr p.1 y.v) ∧ (i ≤ j → RV (fun b => b < w.heap.size) wr p.1 y.v)
theorem CfI.lt {w : World} {g : Nat} {l : List Fld} {i : Nat} {ps : List PF} {wr : World} (h : CfI w g l i ps wr) : g < wr.heap.size := by
  obtain ⟨R, hR⟩ := h.row
  exact hR.lt
theorem CfI.step {w : World} {g : Nat} {l : List Fld} {i : Nat} {ps : List PF} {wr w' : World} (h : CfI w g l i ps wr) (hb : Below wr.heap.size wr w') : CfI w g l i ps w' := by
  obtain ⟨R, hR⟩ := h.row
  refine ⟨⟨R, hR.step hb⟩, h.len, fun j p hp => ?_⟩
  obtain ⟨y, hy, hs, hz, h1, h2⟩ := h.el j p hp
  exact ⟨y, hy, hs, hz, fun hj => (h1 hj).step hb, fun hj => (h2 hj).step hb⟩
theorem CfI.cells {w : World} {g : Nat} {l : List Fld} {i : Nat} {ps : List PF} {wr : World} (h : CfI w g l i ps wr) {j : Nat} {p : PF} (hp : ps[j]? = some p) {k : Nat} {v : Value} (hk : (recF p)[k]? = some v) : wr.cell? ⟨g, j * 6 + k, none⟩ = some v := by
  obtain ⟨R, hR⟩ := h.row
  rw [hR.cell]
  have h1 := flat_get recF_length hp hk
  have h2 : j * 6 + k < (flat recF ps).length := (List.getElem?_eq_some_iff.1 h1).1
  rw [List.getElem?_toArray, List.getElem?_append_left h2]
  exact h1
theorem CfI.frozen {w : World} {g : Nat} {l : List Fld} {i : Nat} {ps : List PF} {wr : World} (h : CfI w g l i ps wr) (k : Nat) : wr.frozen? ⟨g, k, none⟩ = false := by
  obtain ⟨R, hR⟩ := h.row
  exact hR.frozen k
theorem CfI.put {w : World} {g : Nat} {l : List Fld} {i : Nat} {ps : List PF} {wr : World} {c' : VC} {p : PF} {y : Fld} (h : CfI w g l i ps wr) (hp : ps[i]? = some p) (hy : l[i]? = some y) (hg : w.heap.size ≤ g) (hs : y.s = p.2.s) (hr : RV (fun b => w.heap.size ≤ b ∧ b ≠ g) wr c' y.v) :
    CfI w g l (i + 1) (ps.set i (c', p.2)) (setV wr g (i * 6 + 1) c') := by
  have hi : i < ps.length := (List.getElem?_eq_some_iff.1 hp).1
  obtain ⟨R, hR⟩ := h.row
  refine ⟨⟨R, ?_⟩, by rw [List.length_set]; exact h.len, fun j q hq => ?_⟩
  · have h1 : Blk (wr.setCells g (i * 6 + 1) c'.list) g 69 (setList (flat recF ps ++ R) (i * 6 + 1) c'.list).toArray := hR.setCells c'.list (i * 6 + 1)
    have hf : (flat recF ps).length = ps.length * 6 := flat_length recF_length ps
    have hm : (i + 1) * 6 ≤ ps.length * 6 := Nat.mul_le_mul_right _ hi
    have e1 : setList (flat recF ps ++ R) (i * 6 + 1) c'.list = flat recF (ps.set i (c', p.2)) ++ R := by
      rw [setList_eq _ _ _ (by rw [List.length_append, hf]; simp [VC.list]; omega)]
      have e2 : (flat recF ps ++ R).take (i * 6 + 1) = flat recF (ps.take i) ++ [.string p.2.s] := by
        rw [List.take_append_of_le_length (by rw [hf]; omega)]
        rw [show i * 6 + 1 = i * 6 + 1 from rfl, List.take_add, flat_take recF_length, flat_drop recF_length, drop_of hp]
        rfl
      have e3 : (flat recF ps ++ R).drop (i * 6 + 1 + c'.list.length) = flat recF (ps.drop (i + 1)) ++ R := by
        rw [show i * 6 + 1 + c'.list.length = (i + 1) * 6 by simp [VC.list]; omega, List.drop_append_of_le_length (by rw [hf]; exact hm), flat_drop recF_length]
      rw [e2, e3, List.set_eq_take_append_cons_drop, if_pos hi, flat_append]
      have e4 : flat recF ((c', p.2) :: ps.drop (i + 1)) = recF (c', p.2) ++ flat recF (ps.drop (i + 1)) := rfl
      rw [e4]
      simp [recF]
    rw [← e1]
    exact h1
  · have keep : ∀ {G : Nat → Prop} {e : VC} {z : Val}, RV G wr e z → (∀ b, G b → b ≠ g) → RV G (setV wr g (i * 6 + 1) c') e z := fun hz hG => hz.keep fun b hb => heap_setV (hG b hb)
    by_cases hj : j = i
    · subst hj
      rw [List.getElem?_set_self hi] at hq
      cases hq
      obtain ⟨z, hz, hzs, hzz, _⟩ := h.el j p hp
      exact ⟨y, hy, hs, hzz, fun _ => keep hr fun b hb => hb.2, fun h' => by omega⟩
    · rw [List.getElem?_set_ne (fun e => hj e.symm)] at hq
      obtain ⟨z, hz, hs1, hz1, h1, h2⟩ := h.el j q hq
      exact ⟨z, hz, hs1, hz1, fun h' => keep (h1 (by omega)) fun b hb => hb.2, fun h' => keep (h2 (by omega)) fun b hb => by omega⟩

theorem copy_join {w5 : World} {lo : Nat} {ck cn : Int} {ct : ByteArray} {A1 A2 : Option Addr} {ln c1 dn c2 : Nat} {k n : Int} {t : ByteArray} {l : List Val} {d : List Fld} (hk : ck = k) (hn : cn = n) (ht : ct = t) (hz : t.size ≤ reach)
    (hl : RV (fun b => lo ≤ b) w5 ⟨6, 0, ByteArray.empty, A1, ln, c1, none, 0, 0⟩ (.mk 6 0 ByteArray.empty l [])) (hd : RV (fun b => lo ≤ b) w5 ⟨5, 0, ByteArray.empty, none, 0, 0, A2, dn, c2⟩ (.mk 5 0 ByteArray.empty [] d)) :
    RV (fun b => lo ≤ b) w5 ⟨ck, cn, ct, A1, ln, c1, A2, dn, c2⟩ (.mk k n t l d) := by
  have fl := hl.open
  have fd := hd.open
  exact RVs.shut ⟨hk, hn, ht, hz, fl.ln, fl.lc, fl.lsz, fl.la, fd.dn, fd.dc, fd.dsz, fd.da⟩
theorem copy_far {w5 : World} {a lo : Nat} {e : VC} (h : a + 2 ≤ lo) : ∀ b, lo ≤ b → b < w5.heap.size → a ≤ b ∧ (setV w5 (a + 1) 0 e).heap[b]? = w5.heap[b]? := fun b hb _ => ⟨by omega, heap_setV (by omega)⟩
set_option maxRecDepth 100000 in
set_option maxHeartbeats 4000000 in
theorem vcopied_any (x : Val) : ∀ (c : VC) (w : World), RW w c x → Calls Tryz.prog 61 #[c.val] w (CopyOk w x) := by
  induction x using Val.ind with
  | h k n t l d ihl ihd =>
  intro c w h
  obtain ⟨ps, hps, hsl⟩ := h.sl
  obtain ⟨fs, hfs, hsd⟩ := h.sd
  obtain ⟨ck, cn, ct, LA, ln, lc, DA, dn, dc⟩ := c
  have HO := Lib.hid h.open
  have hlz : ln * 80 ≤ 140737488355328 := h.open.lsz
  have hdz : dn * 96 ≤ 140737488355328 := h.open.dsz
  have hln : ln ≤ 140737488355328 := by omega
  have hdn : dn ≤ 140737488355328 := by omega
  have HLL : Hid (ln = l.length) := h.open.ln
  have HDD : Hid (dn = d.length) := h.open.dn
  have HPS : Hid (ps.map Prod.snd = l) := hps
  have HFS : Hid (fs.map Prod.snd = d) := hfs
  have HSL := Lib.hid hsl
  have HSD := Lib.hid hsd
  have HIL := Lib.hid ihl
  have HID := Lib.hid ihd
  have B0 : Hid (Blk ((w.alloc (Obj.cells (VC.arr ⟨ck, cn, ct, LA, ln, lc, DA, dn, dc⟩) 28)).alloc (Obj.cells VC.zero.arr 28)) w.heap.size 28 (VC.arr ⟨ck, cn, ct, LA, ln, lc, DA, dn, dc⟩)) := (Blk.new_at rfl).alloc _
  have B1 : Hid (Blk ((w.alloc (Obj.cells (VC.arr ⟨ck, cn, ct, LA, ln, lc, DA, dn, dc⟩) 28)).alloc (Obj.cells VC.zero.arr 28)) (w.heap.size + 1) 28 VC.zero.arr) := Blk.new_at (by simp)
  have BE : Hid (Below w.heap.size w ((w.alloc (Obj.cells (VC.arr ⟨ck, cn, ct, LA, ln, lc, DA, dn, dc⟩) 28)).alloc (Obj.cells VC.zero.arr 28))) := ((Below.refl _ _).alloc (Nat.le_refl _) _).alloc (by simp) _
  have HWA : Hid (((w.alloc (Obj.cells (VC.arr ⟨ck, cn, ct, LA, ln, lc, DA, dn, dc⟩) 28)).alloc (Obj.cells VC.zero.arr 28)).heap.size = w.heap.size + 2) := by simp [Hid]
  clear h hps hfs hsl hsd ihl ihd hlz hdz
  go_enter Tryz.func61, Tryz.ntmps61
  go_upto_region 1 with fail
  change Code.wp _ _ _ _ ((w.alloc (Obj.cells (VC.arr ⟨ck, cn, ct, LA, ln, lc, DA, dn, dc⟩) 28)).alloc (Obj.cells VC.zero.arr 28))
  generalize ((w.alloc (Obj.cells (VC.arr ⟨ck, cn, ct, LA, ln, lc, DA, dn, dc⟩) 28)).alloc (Obj.cells VC.zero.arr 28)) = wa at *
  have HCV := Lib.hid (cloneV_any ps LA ln lc wa (HSL.out.sr.step BE.out) HSL.out.sz)
  have k3 := B0.out.cell 3
  have kz := B0.out.frozen
  simp at k3
  go_wp2_with fail
  refine HCV.out.mono ?_
  rintro e w1 ⟨v1, rfl, hown, hb⟩
  obtain ⟨A1, c1, rfl, hc1⟩ := own_slice hown
  have C0 := Lib.hid (B0.out.step hb)
  have C1 := Lib.hid (B1.out.step hb)
  have CE := Lib.hid (BE.out.step' hb)
  have hown2 := own_far hown (p := ⟨w.heap.size, 3, none⟩) (fun e => by have h1 : wa.heap.size ≤ w.heap.size := own_ge hown _ e; have h2 := HWA.out; omega) (.slice A1 ln c1)
  clear hb B0 B1 HCV k3 kz
  have k3 := C0.out.cell 3
  have kz := C0.out.frozen
  simp at k3
  go_upto_region 2 with fail
  change Code.wp _ _ _ _ (w1.setCell ⟨w.heap.size, 3, none⟩ (.slice A1 ln c1))
  have D0 : Hid (Blk (w1.setCell ⟨w.heap.size, 3, none⟩ (.slice A1 ln c1)) w.heap.size 28 (VC.arr ⟨ck, cn, ct, A1, ln, c1, DA, dn, dc⟩)) := C0.out.set_ 3 _
  have D1 : Hid (Blk (w1.setCell ⟨w.heap.size, 3, none⟩ (.slice A1 ln c1)) (w.heap.size + 1) 28 VC.zero.arr) := C1.out.far (p := ⟨w.heap.size, 3, none⟩) (by show w.heap.size + 1 ≠ w.heap.size; omega) _
  have DE : Hid (Below w.heap.size w (w1.setCell ⟨w.heap.size, 3, none⟩ (.slice A1 ln c1))) := CE.out.setCell (by show w.heap.size ≤ w.heap.size; omega) _
  generalize w1.setCell ⟨w.heap.size, 3, none⟩ (.slice A1 ln c1) = w2 at *
  have HOW := Lib.hid hown2
  have HC1 := Lib.hid hc1
  clear hown hown2 k3 kz C0 C1 CE hc1
  have k3 := D0.out.cell 3
  simp at k3
  go_upto_block 0 with fail
  go_cut [] (fun wx => Blk wx w.heap.size 28 (VC.arr ⟨ck, cn, ct, A1, ln, c1, DA, dn, dc⟩) ∧ Blk wx (w.heap.size + 1) 28 VC.zero.arr ∧ RV (fun b => wa.heap.size ≤ b) wx ⟨6, 0, ByteArray.empty, A1, ln, c1, none, 0, 0⟩ (.mk 6 0 ByteArray.empty l []) ∧ Below w.heap.size w wx)
  case first =>
    rcases Nat.eq_zero_or_pos ln with h0 | h0
    · subst h0
      go_upto_region 3 with fail
      go_loopw [3, 12] (fun _ u12 wr => u12 = .int .i64 0 ∧ wr = w2) (fun _ _ _ => 0)
      case atStart => exact ⟨rfl, rfl⟩
      case round =>
        obtain ⟨rfl, rfl⟩ := hrel
        go_wp2_with fail
        go_meet
        refine ⟨D0.out, D1.out, RVs.shut ⟨rfl, rfl, rfl, by show 0 ≤ reach; decide, HLL.out, HC1.out, by show 0 * 80 ≤ reach; decide, fun h => absurd h (by show ¬ (0 < 0); omega), rfl, Nat.le_refl _, by show 0 * 96 ≤ reach; decide, fun h => absurd h (by show ¬ (0 < 0); omega)⟩, DE.out⟩
    · obtain ⟨g, cap, hv, hgb, hgl⟩ := HOW.out.form h0
      cases hv
      obtain ⟨R, hR, _, _, _, _⟩ := own_blk HOW.out
      have HG : Hid (wa.heap.size ≤ g) := hgb
      have HG2 : Hid (w.heap.size ≤ g) := by have := HWA.out; unfold Hid; omega
      have HNE : Hid (w.heap.size ≠ g ∧ w.heap.size + 1 ≠ g) := by have := HWA.out; exact ⟨by omega, by omega⟩
      have Q0 : Hid (CqI wa g l 0 ps w2) := ⟨⟨R, hR⟩, by rw [← HPS.out, List.length_map], fun j p hp => ⟨p.2, by rw [← HPS.out, List.getElem?_map, hp]; rfl, fun hj => absurd hj (by omega), fun _ => ((HSL.out.rv p (List.mem_of_getElem? hp)).lt.keep fun b hb => DE.out.block b hb.2).mono fun b hb => (by have := HWA.out; have := hb.2; omega : b < wa.heap.size)⟩⟩
      have HI := HIL
      clear hR hgl hgb
      go_upto_region 3 with fail
      clear k3
      go_loopw [3, 12] (fun _ u12 wr => ∃ (i : Nat) (qs : List PV), i ≤ ln ∧ u12 = .int .i64 i ∧ Blk wr w.heap.size 28 (VC.arr ⟨ck, cn, ct, some ⟨g, 0, none⟩, ln, c1, DA, dn, dc⟩) ∧ Blk wr (w.heap.size + 1) 28 VC.zero.arr ∧ CqI wa g l i qs wr ∧ Below w.heap.size w wr) (fun _ u12 _ => ln - (intOf u12).toNat)
      case atStart => exact ⟨0, ps, Nat.zero_le _, rfl, D0.out, D1.out, Q0.out, DE.out⟩
      case round =>
        obtain ⟨i, qs, hi, rfl, E0, E1, J, EE⟩ := hrel
        have HE0 := Lib.hid E0
        have HE1 := Lib.hid E1
        have J2 := Lib.hid J
        have HEE := Lib.hid EE
        by_cases hlt : i < ln
        · obtain ⟨p, hp⟩ : ∃ p, qs[i]? = some p := ⟨_, List.getElem?_eq_getElem (by have h1 := J.len; have h2 := HLL.out; omega)⟩
          obtain ⟨y, hy, _, hrv⟩ := J.el i p hp
          have HPI := Lib.hid hp
          have HY := Lib.hid hy
          have HC := Lib.hid (HI.out y (List.mem_of_getElem? hy))
          have RP : Hid (RW wr p.1 y) := (hrv (Nat.le_refl _)).mono fun _ _ => trivial
          have lb0 := E0.lt
          have gl := J.lt
          have HWL : Hid (wa.heap.size ≤ wr.heap.size) := by have h1 := HG.out; unfold Hid; omega
          have i0' : (0 : Int) ≤ (i : Int) := by omega
          have i1' : (i : Int) < (ln : Int) := by omega
          have k3 := E0.cell 3
          simp at k3
          go_upto_region 5 with fail
          have B0' : Hid (Below wr.heap.size wr wr.drew) := Lib.hid ((Below.refl wr.heap.size wr).drew)
          have KC : Hid (∀ w' : World, Below wr.heap.size wr w' → w'.cell? ⟨w.heap.size, 3, none⟩ = some (.slice (some ⟨g, 0, none⟩) ln c1)) := Lib.hid fun w' hb => (hb.cell (p := ⟨w.heap.size, 3, none⟩) lb0).trans k3
          have KD : Hid (∀ (W : World) (e : VC), Below wr.heap.size wr W → (setV W g (i * 5) e).cell? ⟨w.heap.size, 3, none⟩ = some (.slice (some ⟨g, 0, none⟩) ln c1)) := Lib.hid fun W e hb => (World.cell?_of_block (w := W) (a := ⟨w.heap.size, 3, none⟩) (heap_setV HNE.out.1)).trans (KC.out W hb)
          clear hp hy hrv E0 E1 J EE k3
          refine wp_region_noPanic ?_
          refine wp_region_held_drew (S := (fun w' => w'.cell? ⟨w.heap.size, 3, none⟩ = some (.slice (some ⟨g, 0, none⟩) ln c1))) (by kernel_rfl) ?_ (fun hHeld => ?_)
          · (try dsimp only); exact KC.out _ B0'.out
          have JW := Lib.hid (J2.out.step B0'.out)
          have y0 := JW.out.cells HPI.out (k := 0) rfl
          have y1 := JW.out.cells HPI.out (k := 1) rfl
          have y2 := JW.out.cells HPI.out (k := 2) rfl
          have y3 := JW.out.cells HPI.out (k := 3) rfl
          have y4 := JW.out.cells HPI.out (k := 4) rfl
          simp only [Nat.add_zero] at y0 y1 y2 y3 y4
          have HW0 : Hid (wr.heap.size = wr.drew.heap.size) := rfl
          generalize wr.drew = W0 at *
          have B := B0'
          refine wpAnyH_take (i := 0) (v := ?_) (take_at rfl) (by kernel_rfl) (by kernel_rfl) (by kernel_rfl) (fun _ _ _ h => h) (Or.inl ⟨by rfl, ?_⟩) (by assumption) ?_
          rotate_left
          · intro w' hSw; (try dsimp only at hSw); go_simp; (try with_reducible rfl)
          (try simp only [Act.put, List.setIfInBounds_toArray, List.set_cons_zero, List.set_cons_succ])
          refine wpAnyH_take (i := 1) (v := ?_) (take_at rfl) (by kernel_rfl) (by kernel_rfl) (by kernel_rfl) (fun _ _ _ h => h) (Or.inl ⟨by rfl, ?_⟩) (by assumption) ?_
          rotate_left
          · intro w' hSw; (try dsimp only at hSw); go_simp; (try with_reducible rfl)
          (try simp only [Act.put, List.setIfInBounds_toArray, List.set_cons_zero, List.set_cons_succ])
          refine wpAnyH_take (i := 2) (v := ?_) (take_at rfl) (by kernel_rfl) (by kernel_rfl) (by kernel_rfl) (fun _ _ _ h => h) (Or.inl ⟨by rfl, ?_⟩) (by assumption) ?_
          rotate_left
          · intro w' hSw; (try dsimp only at hSw); go_simp; (try with_reducible rfl)
          (try simp only [Act.put, List.setIfInBounds_toArray, List.set_cons_zero, List.set_cons_succ])
          refine wpAnyH_take (i := 3) (v := ?_) (take_at rfl) (by kernel_rfl) (by kernel_rfl) (by kernel_rfl) (fun _ _ _ h => h) (Or.inl ⟨by rfl, ?_⟩) (by assumption) ?_
          rotate_left
          · intro w' hSw; (try dsimp only at hSw); go_simp; (try with_reducible rfl)
          (try simp only [Act.put, List.setIfInBounds_toArray, List.set_cons_zero, List.set_cons_succ])
          refine wpAnyH_take (i := 4) (v := ?_) (take_at rfl) (by kernel_rfl) (by kernel_rfl) (by kernel_rfl) (fun _ _ _ h => h) (Or.inl ⟨by rfl, ?_⟩) (by assumption) ?_
          rotate_left
          · intro w' hSw; (try dsimp only at hSw); go_simp; (try with_reducible rfl)
          (try simp only [Act.put, List.setIfInBounds_toArray, List.set_cons_zero, List.set_cons_succ])
          refine wpAnyH_take (i := 5) (v := ?_) (take_at rfl) (by kernel_rfl) (by kernel_rfl) (by kernel_rfl) (fun _ _ _ h => h) (Or.inl ⟨by rfl, ?_⟩) (by assumption) ?_
          rotate_left
          · intro w' hSw; (try dsimp only at hSw); go_simp; (try with_reducible rfl)
          (try simp only [Act.put, List.setIfInBounds_toArray, List.set_cons_zero, List.set_cons_succ])
          refine wpAnyH_take (i := 6) (v := ?_) (take_at rfl) (by kernel_rfl) (by kernel_rfl) (by kernel_rfl) (fun _ _ _ h => h) (Or.inl ⟨by rfl, ?_⟩) (by assumption) ?_
          rotate_left
          · intro w' hSw; (try dsimp only at hSw); go_simp; (try with_reducible rfl)
          (try simp only [Act.put, List.setIfInBounds_toArray, List.set_cons_zero, List.set_cons_succ])
          refine wpAnyH_ready (rs := [7]) (by kernel_rfl) (by simp) ?_
          refine AllReadyH.cons (take_at rfl) (fun K hK => ?_) AllReadyH.nil
          go_simp
          refine hK.out _ _ ?_ (fun hHeld2 => ?_)
          · (try dsimp only); exact KC.out _ B.out
          clear hK K hHeld
          have hHeld := hHeld2
          clear hHeld2
          (try simp only [Act.put, List.setIfInBounds_toArray, List.set_cons_zero, List.set_cons_succ])
          clear y0 y1 y2 y3 y4 JW
          refine wpAnyH_ready (rs := [8]) (by kernel_rfl) (by simp) ?_
          refine AllReadyH.cons (take_at rfl) (fun K hK => ?_) AllReadyH.nil
          go_simp
          refine (HC.out p.1 W0 (RP.out.step B.out)).mono ?_
          rintro e W1 ⟨c9, rfl, hr, hb⟩
          have R9 := Lib.hid hr
          have BW := Lib.hid hb
          replace B := Lib.hid (B.out.step' hb)
          clear hb hr
          (try go_wp2_with fail)
          refine hK.out _ _ ?_ (fun hHeld2 => ?_)
          · (try dsimp only); exact KC.out _ B.out
          clear hK K hHeld
          have hHeld := hHeld2
          clear hHeld2
          (try simp only [Act.put, List.setIfInBounds_toArray, List.set_cons_zero, List.set_cons_succ])
          refine wpAnyH_take (i := 9) (v := ?_) (take_at rfl) (by kernel_rfl) (by kernel_rfl) (by kernel_rfl) (fun _ _ _ h => h) (Or.inl ⟨by rfl, ?_⟩) (by assumption) ?_
          rotate_left
          · intro w' hSw; (try dsimp only at hSw); go_simp; (try with_reducible rfl)
          (try simp only [Act.put, List.setIfInBounds_toArray, List.set_cons_zero, List.set_cons_succ])
          refine wpAnyH_ready (rs := [10]) (by kernel_rfl) (by simp) ?_
          refine AllReadyH.cons (take_at rfl) (fun K hK => ?_) AllReadyH.nil
          have J9 := Lib.hid (J2.out.step B.out)
          have z9 := J9.out.frozen
          have y0 := J9.out.cells HPI.out (k := 0) rfl
          have y1 := J9.out.cells HPI.out (k := 1) rfl
          have y2 := J9.out.cells HPI.out (k := 2) rfl
          have y3 := J9.out.cells HPI.out (k := 3) rfl
          have y4 := J9.out.cells HPI.out (k := 4) rfl
          simp only [Nat.add_zero] at y0 y1 y2 y3 y4
          go_simp
          refine hK.out _ _ (KD.out W1 c9 B.out) (fun hHeld2 => ?_)
          clear hHeld hHeld2 hK K y0 y1 y2 y3 y4 z9
          (try simp only [Act.put, List.setIfInBounds_toArray, List.set_cons_zero, List.set_cons_succ])
          refine wpAnyH_done (by kernel_rfl) ?_ _
          refine NoPanic.normal ?_
          have HN : Hid (CqI wa g l (i + 1) (qs.set i (c9, y)) (setV W1 g (i * 5) c9)) := (J2.out.step B.out).put HPI.out HY.out HG.out (R9.out.mono fun b hb => by have h2 := HW0.out; have hb' : W0.heap.size ≤ b := hb; exact ⟨by have := HWL.out; omega, by omega⟩)
          have HN0 := Lib.hid ((HE0.out.step B.out).farV (b := g) HNE.out.1 (i * 5) c9)
          have HN1 := Lib.hid ((HE1.out.step B.out).farV (b := g) HNE.out.2 (i * 5) c9)
          have HNB := Lib.hid (below_setV (HEE.out.step' B.out ) (B := w.heap.size) HG2.out (i * 5) c9)
          clear R9 BW B HE0 HE1 HEE J2 RP HC KC KD
          go_wp2_with fail
          go_roundw
          case rel => exact ⟨i + 1, _, hlt, by go_num, HN0.out, HN1.out, HN.out, HNB.out⟩
          case measure => simp [intOf]; omega
        · obtain rfl : i = ln := by omega
          have HBK : Hid (∀ b off, some (⟨g, 0, none⟩ : Addr) = some ⟨b, off, none⟩ → b = g ∧ off = 0) := fun b off e => by cases e; exact ⟨rfl, rfl⟩
          clear E0 E1 J EE
          go_wp2_with fail
          go_meet
          refine ⟨HE0.out, HE1.out, RVs.shut ⟨rfl, rfl, rfl, by show 0 ≤ reach; decide, HLL.out, HC1.out, HSL.out.sz, fun _ => ⟨g, 0, rfl, ⟨HG.out, fun _ q => J2.out.frozen q⟩, fun j y hj => ?_⟩, rfl, Nat.le_refl _, by show 0 * 96 ≤ reach; decide, fun h => absurd h (by show ¬ (0 < 0); omega)⟩, HEE.out⟩
          obtain ⟨p, hp⟩ : ∃ p, qs[j]? = some p := ⟨_, List.getElem?_eq_getElem (by have h1 := J2.out.len; have h2 := (List.getElem?_eq_some_iff.1 hj).1; simp only [Val.l] at h2; omega)⟩
          obtain ⟨z, hz, h1, _⟩ := J2.out.el j p hp
          have hzy : z = y := Option.some.inj (hz.symm.trans hj)
          subst hzy
          have hjl : j < i := by have h2 := (List.getElem?_eq_some_iff.1 hj).1; simp only [Val.l] at h2; have := HLL.out; omega
          exact ⟨p.1, vat_of fun q v hq => by rw [Nat.zero_add]; exact J2.out.cells hp hq, (h1 hjl).mono fun b hb => hb.1⟩
  case rest =>
    obtain ⟨hb0, hb1, hrl, hbe⟩ := hcut
    have HRL := Lib.hid hrl.lt
    have C0 := Lib.hid hb0
    have C1 := Lib.hid hb1
    have CE := Lib.hid hbe
    clear D0 D1 DE HOW hb0 hb1 hrl hbe BE k3
    generalize wc = w3 at *
    have hle3 : w.heap.size ≤ w3.heap.size := CE.out.size
    have hwa3 : wa.heap.size ≤ w3.heap.size := by have h1 := C1.out.lt; have h2 := HWA.out; omega
    have HCF := Lib.hid (cloneF_any fs DA dn dc w3 (HSD.out.sr.step CE.out) HSD.out.sz)
    have k4 := C0.out.cell 4
    have kz := C0.out.frozen
    simp at k4
    go_wp2_with fail
    refine HCF.out.mono ?_
    rintro e wz ⟨v2, rfl, hown, hb⟩
    obtain ⟨A2, c2, rfl, hc2⟩ := own_slice hown
    have C0' := Lib.hid (C0.out.step hb)
    have C1' := Lib.hid (C1.out.step hb)
    have CE' := Lib.hid (CE.out.step' hb)
    have HRL' := Lib.hid (HRL.out.step hb)
    have hsz := hb.size
    have hown2 := own_far hown (p := ⟨w.heap.size, 4, none⟩) (fun e => by have h1 : w3.heap.size ≤ w.heap.size := own_ge hown _ e; have h2 := HWA.out; omega) (.slice A2 dn c2)
    clear hb C0 C1 CE HCF k4 kz HRL
    have k4 := C0'.out.cell 4
    have kz := C0'.out.frozen
    simp at k4
    go_upto_region 8 with fail
    change Code.wp _ _ _ _ (wz.setCell ⟨w.heap.size, 4, none⟩ (.slice A2 dn c2))
    have D0 : Hid (Blk (wz.setCell ⟨w.heap.size, 4, none⟩ (.slice A2 dn c2)) w.heap.size 28 (VC.arr ⟨ck, cn, ct, A1, ln, c1, A2, dn, c2⟩)) := C0'.out.set_ 4 _
    have D1 : Hid (Blk (wz.setCell ⟨w.heap.size, 4, none⟩ (.slice A2 dn c2)) (w.heap.size + 1) 28 VC.zero.arr) := C1'.out.far (p := ⟨w.heap.size, 4, none⟩) (by show w.heap.size + 1 ≠ w.heap.size; omega) _
    have DE : Hid (Below w.heap.size w (wz.setCell ⟨w.heap.size, 4, none⟩ (.slice A2 dn c2))) := CE'.out.setCell (by show w.heap.size ≤ w.heap.size; omega) _
    have HRL4 : Hid (RV (fun b => wa.heap.size ≤ b ∧ b < w3.heap.size) (wz.setCell ⟨w.heap.size, 4, none⟩ (.slice A2 dn c2)) ⟨6, 0, ByteArray.empty, A1, ln, c1, none, 0, 0⟩ (.mk 6 0 ByteArray.empty l [])) := HRL'.out.keep fun b hb => Below.heap_setCell wz ⟨w.heap.size, 4, none⟩ _ b (by have := HWA.out; have := hb.1; show b ≠ w.heap.size; omega)
    have HW3 : Hid (w3.heap.size ≤ (wz.setCell ⟨w.heap.size, 4, none⟩ (.slice A2 dn c2)).heap.size) := by simpa [Hid, World.setCell] using hsz
    generalize wz.setCell ⟨w.heap.size, 4, none⟩ (.slice A2 dn c2) = w4 at *
    have HOW := Lib.hid hown2
    have HC2 := Lib.hid hc2
    clear hown hown2 k4 kz C0' C1' CE' hc2 HRL' hsz
    have k4 := D0.out.cell 4
    simp at k4
    go_upto_block 2 with fail
    go_cut [] (fun wx => Blk wx w.heap.size 28 (VC.arr ⟨ck, cn, ct, A1, ln, c1, A2, dn, c2⟩) ∧ Blk wx (w.heap.size + 1) 28 VC.zero.arr ∧ RV (fun b => wa.heap.size ≤ b) wx ⟨5, 0, ByteArray.empty, none, 0, 0, A2, dn, c2⟩ (.mk 5 0 ByteArray.empty [] d) ∧ Below w3.heap.size w4 wx)
    case first =>
      rcases Nat.eq_zero_or_pos dn with h0 | h0
      · subst h0
        go_upto_region 9 with fail
        go_loopw [4, 33] (fun _ u12 wr => u12 = .int .i64 0 ∧ wr = w4) (fun _ _ _ => 0)
        case atStart => exact ⟨rfl, rfl⟩
        case round =>
          obtain ⟨rfl, rfl⟩ := hrel
          go_wp2_with fail
          go_meet
          refine ⟨D0.out, D1.out, RVs.shut ⟨rfl, rfl, rfl, by show 0 ≤ reach; decide, rfl, Nat.le_refl _, by show 0 * 80 ≤ reach; decide, fun h => absurd h (by show ¬ (0 < 0); omega), HDD.out, HC2.out, by show 0 * 96 ≤ reach; decide, fun h => absurd h (by show ¬ (0 < 0); omega)⟩, Below.refl _ _⟩
      · obtain ⟨g, cap, hv, hgb, hgl⟩ := HOW.out.form h0
        cases hv
        obtain ⟨R, hR, _, _, _, _⟩ := own_blk HOW.out
        have HG3 : Hid (w3.heap.size ≤ g) := hgb
        have HG : Hid (wa.heap.size ≤ g) := by unfold Hid; omega
        have HNE : Hid (w.heap.size ≠ g ∧ w.heap.size + 1 ≠ g) := by have := HWA.out; exact ⟨by omega, by omega⟩
        have Q0 : Hid (CfI wa g d 0 fs w4) := ⟨⟨R, hR⟩, by rw [← HFS.out, List.length_map], fun j p hp => ⟨p.2, by rw [← HFS.out, List.getElem?_map, hp]; rfl, rfl, HSD.out.ns p (List.mem_of_getElem? hp), fun hj => absurd hj (by omega), fun _ => ((HSD.out.rv p (List.mem_of_getElem? hp)).lt.keep fun b hb => DE.out.block b hb.2).mono fun b hb => (by have := HWA.out; have := hb.2; omega : b < wa.heap.size)⟩⟩
        have HI := HID
        clear hR hgl hgb HLL
        have HLL := HDD
        go_upto_region 9 with fail
        clear k4
        go_loopw [4, 33] (fun _ u12 wr => ∃ (i : Nat) (qs : List PF), i ≤ dn ∧ u12 = .int .i64 i ∧ Blk wr w.heap.size 28 (VC.arr ⟨ck, cn, ct, A1, ln, c1, some ⟨g, 0, none⟩, dn, c2⟩) ∧ Blk wr (w.heap.size + 1) 28 VC.zero.arr ∧ CfI wa g d i qs wr ∧ Below w3.heap.size w4 wr) (fun _ u12 _ => dn - (intOf u12).toNat)
        case atStart => exact ⟨0, fs, Nat.zero_le _, rfl, D0.out, D1.out, Q0.out, Below.refl _ _⟩
        case round =>
          obtain ⟨i, qs, hi, rfl, E0, E1, J, EE⟩ := hrel
          have HE0 := Lib.hid E0
          have HE1 := Lib.hid E1
          have J2 := Lib.hid J
          have HEE := Lib.hid EE
          by_cases hlt : i < dn
          · obtain ⟨p, hp⟩ : ∃ p, qs[i]? = some p := ⟨_, List.getElem?_eq_getElem (by have h1 := J.len; have h2 := HLL.out; omega)⟩
            obtain ⟨y, hy, hys, hyz, _, hrv⟩ := J.el i p hp
            have HPI := Lib.hid hp
            have HY := Lib.hid hy
            have HYS := Lib.hid hys
            have HC := Lib.hid (HI.out y (List.mem_of_getElem? hy))
            have RP : Hid (RW wr p.1 y.v) := (hrv (Nat.le_refl _)).mono fun _ _ => trivial
            have lb0 := E0.lt
            have gl := J.lt
            have HWL : Hid (wa.heap.size ≤ wr.heap.size) := by have h1 := HG.out; unfold Hid; omega
            have i0' : (0 : Int) ≤ (i : Int) := by omega
            have i1' : (i : Int) < (dn : Int) := by omega
            have k3 := E0.cell 4
            simp at k3
            go_upto_region 11 with fail
            have B0' : Hid (Below wr.heap.size wr wr.drew) := Lib.hid ((Below.refl wr.heap.size wr).drew)
            have KC : Hid (∀ w' : World, Below wr.heap.size wr w' → w'.cell? ⟨w.heap.size, 4, none⟩ = some (.slice (some ⟨g, 0, none⟩) dn c2)) := Lib.hid fun w' hb => (hb.cell (p := ⟨w.heap.size, 4, none⟩) lb0).trans k3
            have KD : Hid (∀ (W : World) (e : VC), Below wr.heap.size wr W → (setV W g (i * 6 + 1) e).cell? ⟨w.heap.size, 4, none⟩ = some (.slice (some ⟨g, 0, none⟩) dn c2)) := Lib.hid fun W e hb => (World.cell?_of_block (w := W) (a := ⟨w.heap.size, 4, none⟩) (heap_setV HNE.out.1)).trans (KC.out W hb)
            clear hp hy hrv hys hyz E0 E1 J EE k3
            refine wp_region_noPanic ?_
            refine wp_region_held_drew (S := (fun w' => w'.cell? ⟨w.heap.size, 4, none⟩ = some (.slice (some ⟨g, 0, none⟩) dn c2))) (by kernel_rfl) ?_ (fun hHeld => ?_)
            · (try dsimp only); exact KC.out _ B0'.out
            have JW := Lib.hid (J2.out.step B0'.out)
            have y0 := JW.out.cells HPI.out (k := 1) rfl
            have y1 := JW.out.cells HPI.out (k := 2) rfl
            have y2 := JW.out.cells HPI.out (k := 3) rfl
            have y3 := JW.out.cells HPI.out (k := 4) rfl
            have y4 := JW.out.cells HPI.out (k := 5) rfl
            have HW0 : Hid (wr.heap.size = wr.drew.heap.size) := rfl
            generalize wr.drew = W0 at *
            have B := B0'
            refine wpAnyH_take (i := 0) (v := ?_) (take_at rfl) (by kernel_rfl) (by kernel_rfl) (by kernel_rfl) (fun _ _ _ h => h) (Or.inl ⟨by rfl, ?_⟩) (by assumption) ?_
            rotate_left
            · intro w' hSw; (try dsimp only at hSw); go_simp; (try with_reducible rfl)
            (try simp only [Act.put, List.setIfInBounds_toArray, List.set_cons_zero, List.set_cons_succ])
            refine wpAnyH_take (i := 1) (v := ?_) (take_at rfl) (by kernel_rfl) (by kernel_rfl) (by kernel_rfl) (fun _ _ _ h => h) (Or.inl ⟨by rfl, ?_⟩) (by assumption) ?_
            rotate_left
            · intro w' hSw; (try dsimp only at hSw); go_simp; (try with_reducible rfl)
            (try simp only [Act.put, List.setIfInBounds_toArray, List.set_cons_zero, List.set_cons_succ])
            refine wpAnyH_take (i := 2) (v := ?_) (take_at rfl) (by kernel_rfl) (by kernel_rfl) (by kernel_rfl) (fun _ _ _ h => h) (Or.inl ⟨by rfl, ?_⟩) (by assumption) ?_
            rotate_left
            · intro w' hSw; (try dsimp only at hSw); go_simp; (try with_reducible rfl)
            (try simp only [Act.put, List.setIfInBounds_toArray, List.set_cons_zero, List.set_cons_succ])
            refine wpAnyH_take (i := 3) (v := ?_) (take_at rfl) (by kernel_rfl) (by kernel_rfl) (by kernel_rfl) (fun _ _ _ h => h) (Or.inl ⟨by rfl, ?_⟩) (by assumption) ?_
            rotate_left
            · intro w' hSw; (try dsimp only at hSw); go_simp; (try with_reducible rfl)
            (try simp only [Act.put, List.setIfInBounds_toArray, List.set_cons_zero, List.set_cons_succ])
            refine wpAnyH_take (i := 4) (v := ?_) (take_at rfl) (by kernel_rfl) (by kernel_rfl) (by kernel_rfl) (fun _ _ _ h => h) (Or.inl ⟨by rfl, ?_⟩) (by assumption) ?_
            rotate_left
            · intro w' hSw; (try dsimp only at hSw); go_simp; (try with_reducible rfl)
            (try simp only [Act.put, List.setIfInBounds_toArray, List.set_cons_zero, List.set_cons_succ])
            refine wpAnyH_take (i := 5) (v := ?_) (take_at rfl) (by kernel_rfl) (by kernel_rfl) (by kernel_rfl) (fun _ _ _ h => h) (Or.inl ⟨by rfl, ?_⟩) (by assumption) ?_
            rotate_left
            · intro w' hSw; (try dsimp only at hSw); go_simp; (try with_reducible rfl)
            (try simp only [Act.put, List.setIfInBounds_toArray, List.set_cons_zero, List.set_cons_succ])
            refine wpAnyH_take (i := 6) (v := ?_) (take_at rfl) (by kernel_rfl) (by kernel_rfl) (by kernel_rfl) (fun _ _ _ h => h) (Or.inl ⟨by rfl, ?_⟩) (by assumption) ?_
            rotate_left
            · intro w' hSw; (try dsimp only at hSw); go_simp; (try with_reducible rfl)
            (try simp only [Act.put, List.setIfInBounds_toArray, List.set_cons_zero, List.set_cons_succ])
            refine wpAnyH_take (i := 7) (v := ?_) (take_at rfl) (by kernel_rfl) (by kernel_rfl) (by kernel_rfl) (fun _ _ _ h => h) (Or.inl ⟨by rfl, ?_⟩) (by assumption) ?_
            rotate_left
            · intro w' hSw; (try dsimp only at hSw); go_simp; (try with_reducible rfl)
            (try simp only [Act.put, List.setIfInBounds_toArray, List.set_cons_zero, List.set_cons_succ])
            refine wpAnyH_ready (rs := [8]) (by kernel_rfl) (by simp) ?_
            refine AllReadyH.cons (take_at rfl) (fun K hK => ?_) AllReadyH.nil
            go_simp
            refine hK.out _ _ ?_ (fun hHeld2 => ?_)
            · (try dsimp only); exact KC.out _ B.out
            clear hK K hHeld
            have hHeld := hHeld2
            clear hHeld2
            (try simp only [Act.put, List.setIfInBounds_toArray, List.set_cons_zero, List.set_cons_succ])
            clear y0 y1 y2 y3 y4 JW
            refine wpAnyH_ready (rs := [9]) (by kernel_rfl) (by simp) ?_
            refine AllReadyH.cons (take_at rfl) (fun K hK => ?_) AllReadyH.nil
            go_simp
            refine (HC.out p.1 W0 (RP.out.step B.out)).mono ?_
            rintro e W1 ⟨c9, rfl, hr, hb⟩
            have R9 := Lib.hid hr
            have BW := Lib.hid hb
            replace B := Lib.hid (B.out.step' hb)
            clear hb hr
            (try go_wp2_with fail)
            refine hK.out _ _ ?_ (fun hHeld2 => ?_)
            · (try dsimp only); exact KC.out _ B.out
            clear hK K hHeld
            have hHeld := hHeld2
            clear hHeld2
            (try simp only [Act.put, List.setIfInBounds_toArray, List.set_cons_zero, List.set_cons_succ])
            refine wpAnyH_take (i := 10) (v := ?_) (take_at rfl) (by kernel_rfl) (by kernel_rfl) (by kernel_rfl) (fun _ _ _ h => h) (Or.inl ⟨by rfl, ?_⟩) (by assumption) ?_
            rotate_left
            · intro w' hSw; (try dsimp only at hSw); go_simp; (try with_reducible rfl)
            (try simp only [Act.put, List.setIfInBounds_toArray, List.set_cons_zero, List.set_cons_succ])
            refine wpAnyH_take (i := 11) (v := ?_) (take_at rfl) (by kernel_rfl) (by kernel_rfl) (by kernel_rfl) (fun _ _ _ h => h) (Or.inl ⟨by rfl, ?_⟩) (by assumption) ?_
            rotate_left
            · intro w' hSw; (try dsimp only at hSw); go_simp; (try with_reducible rfl)
            (try simp only [Act.put, List.setIfInBounds_toArray, List.set_cons_zero, List.set_cons_succ])
            refine wpAnyH_ready (rs := [12]) (by kernel_rfl) (by simp) ?_
            refine AllReadyH.cons (take_at rfl) (fun K hK => ?_) AllReadyH.nil
            have J9 := Lib.hid (J2.out.step B.out)
            have z9 := J9.out.frozen
            have y0 := J9.out.cells HPI.out (k := 1) rfl
            have y1 := J9.out.cells HPI.out (k := 2) rfl
            have y2 := J9.out.cells HPI.out (k := 3) rfl
            have y3 := J9.out.cells HPI.out (k := 4) rfl
            have y4 := J9.out.cells HPI.out (k := 5) rfl
            go_simp
            refine hK.out _ _ (KD.out W1 c9 B.out) (fun hHeld2 => ?_)
            clear hHeld hHeld2 hK K y0 y1 y2 y3 y4 z9
            (try simp only [Act.put, List.setIfInBounds_toArray, List.set_cons_zero, List.set_cons_succ])
            refine wpAnyH_done (by kernel_rfl) ?_ _
            refine NoPanic.normal ?_
            have HN : Hid (CfI wa g d (i + 1) (qs.set i (c9, p.2)) (setV W1 g (i * 6 + 1) c9)) := (J2.out.step B.out).put HPI.out HY.out HG.out HYS.out (R9.out.mono fun b hb => by have h2 := HW0.out; have hb' : W0.heap.size ≤ b := hb; exact ⟨by have := HWL.out; omega, by omega⟩)
            have HN0 := Lib.hid ((HE0.out.step B.out).farV (b := g) HNE.out.1 (i * 6 + 1) c9)
            have HN1 := Lib.hid ((HE1.out.step B.out).farV (b := g) HNE.out.2 (i * 6 + 1) c9)
            have HNB := Lib.hid (below_setV (HEE.out.step' B.out (by have := HW3.out; omega)) (B := w3.heap.size) HG3.out (i * 6 + 1) c9)
            clear R9 BW B HE0 HE1 HEE J2 RP HC KC KD
            go_wp2_with fail
            go_roundw
            case rel => exact ⟨i + 1, _, hlt, by go_num, HN0.out, HN1.out, HN.out, HNB.out⟩
            case measure => simp [intOf]; omega
          · obtain rfl : i = dn := by omega
            clear E0 E1 J EE
            go_wp2_with fail
            go_meet
            refine ⟨HE0.out, HE1.out, RVs.shut ⟨rfl, rfl, rfl, by show 0 ≤ reach; decide, rfl, Nat.le_refl _, by show 0 * 80 ≤ reach; decide, fun h => absurd h (by show ¬ (0 < 0); omega), HDD.out, HC2.out, HSD.out.sz, fun _ => ⟨g, 0, rfl, ⟨HG.out, fun _ q => J2.out.frozen q⟩, fun j y hj => ?_⟩⟩, HEE.out⟩
            obtain ⟨p, hp⟩ : ∃ p, qs[j]? = some p := ⟨_, List.getElem?_eq_getElem (by have h1 := J2.out.len; have h2 := (List.getElem?_eq_some_iff.1 hj).1; simp only [Val.d] at h2; omega)⟩
            obtain ⟨z, hz, hzs, hzz, h1, _⟩ := J2.out.el j p hp
            have hzy : z = y := Option.some.inj (hz.symm.trans hj)
            subst hzy
            have hjl : j < i := by have h2 := (List.getElem?_eq_some_iff.1 hj).1; simp only [Val.d] at h2; have := HDD.out; omega
            refine ⟨by rw [Nat.zero_add, hzs]; exact J2.out.cells hp (k := 0) rfl, by rw [hzs]; exact hzz, p.1, vat_of fun q v hq => ?_, (h1 hjl).mono fun b hb => hb.1⟩
            have := J2.out.cells hp (k := q + 1) (by simpa [recF] using hq)
            rw [show 0 + j * 6 + 1 + q = j * 6 + (q + 1) by omega]
            exact this
    case rest =>
      obtain ⟨hb0, hb1, hrd, hbe⟩ := hcut
      have HRD := Lib.hid hrd
      have E0 := Lib.hid hb0
      have E1 := Lib.hid hb1
      have HRL5 := Lib.hid (HRL4.out.keep fun b hb => hbe.block b hb.2)
      have EE := Lib.hid (DE.out.trans (hbe.mono hle3))
      clear D0 D1 DE HOW hb0 hb1 hrd hbe k4 HRL4
      generalize wc = w5 at *
      obtain ⟨a0, a1, a2, a3, a4⟩ := VAt.of_blk E0.out
      simp only [Nat.zero_add] at a0 a1 a2 a3 a4
      obtain ⟨b0, b1, b2, b3, b4⟩ := VAt.of_blk E1.out
      simp only [Nat.zero_add] at b0 b1 b2 b3 b4
      have bz := E1.out.frozen
      go_wp2_with fail
      have q := VAt.of_blk (E1.out.putV ⟨ck, cn, ct, A1, ln, c1, A2, dn, c2⟩)
      refine bodyPost_ret (results_val rfl _ _ _ rfl _ ⟨ck, cn, ct, A1, ln, c1, A2, dn, c2⟩ q) rfl ?_
      have hj := copy_join HO.out.k HO.out.n HO.out.t HO.out.tsz (HRL5.out.mono fun b hb => hb.1) HRD.out
      have hle : w.heap.size + 2 ≤ wa.heap.size := by rw [HWA.out]; exact Nat.le_refl _
      have hk := hj.keepG (G := fun b => w.heap.size ≤ b) (w' := setV w5 (w.heap.size + 1) 0 ⟨ck, cn, ct, A1, ln, c1, A2, dn, c2⟩) (copy_far hle)
      exact ⟨⟨ck, cn, ct, A1, ln, c1, A2, dn, c2⟩, rfl, hk, below_setV (b := w.heap.size + 1) EE.out (Nat.le_add_right _ _) 0 ⟨ck, cn, ct, A1, ln, c1, A2, dn, c2⟩⟩

end Go.Proofs.YtblepmmibhphhaaGreatDoor


/- The contract of router.Own. -/
namespace Go.Proofs.YtblepmmibhphhaaGreatDoor
open Go.RowKit

/-- a document is owned -/
noncomputable def ownP (R : Ro) (s : Int) (x : Val) : Bool := decide ((encR R.ks R.ha x).2 = 0) && ownsB R s (encR R.ks R.ha x).1
noncomputable def ownL (R : Ro) (s : Int) (l : List Val) : List Val := l.filter (ownP R s)
theorem ownL_at {R : Ro} {s : Int} {l : List Val} {i : Nat} {x : Val} (h : l[i]? = some x) : ownL R s (l.drop i) = (if ownP R s x then [x] else []) ++ ownL R s (l.drop (i + 1)) := by
  rw [drop_of h]
  unfold ownL
  rw [List.filter_cons]
  split <;> rfl
/-- values are handed back -/
def OwnOk (l : List Val) (w : World) (e : Ending) (w' : World) : Prop :=
  ∃ (A : Option Addr) (m c : Nat) (qs : List PV), e = .returned (.slice A m c) ∧ qs.map Prod.snd = l ∧ SL (fun _ => True) w' A m c qs ∧ Below w.heap.size w w'
/-- the loop of Own -/
structure OwJ (w : World) (k : Array Value) (v : Value) (qs : List PV) (wr : World) : Prop where
  b0 : Blk wr w.heap.size 45 k
  sz : w.heap.size + 1 ≤ wr.heap.size
  vs : VsI w v qs wr
  ne : v.ownBlock ≠ some w.heap.size
theorem OwJ.step {w wr w' : World} {k : Array Value} {v : Value} {qs : List PV} (h : OwJ w k v qs wr) (hb : Below wr.heap.size wr w') : OwJ w k v qs w' := ⟨h.b0.step hb, Nat.le_trans h.sz hb.size, h.vs.step hb, h.ne⟩
theorem OwJ.add {w wr w' : World} {k : Array Value} {v v' : Value} {qs : List PV} {p : PV} {m : Nat} (h : OwJ w k v qs wr) (hp : RV (fun b => v.ownBlock ≠ some b) wr p.1 p.2) (hm : m = qs.length + 1)
    (ho : w'.ownsRow w.heap.size 28 5 v' m (flat recV qs ++ recV p)) (hg : wr.grownBy w' v.ownBlock) (hat : v'.ownBlock = v.ownBlock ∨ v'.ownBlock = some wr.heap.size) : OwJ w k v' (qs ++ [p]) w' := by
  have hs := h.sz
  refine ⟨h.b0.grown hg (fun e => h.ne e.symm), Nat.le_trans h.sz hg.size, h.vs.add hp hm ho hg hat, ?_⟩
  rcases hat with e | e <;> rw [e]
  · exact h.ne
  · exact fun e => (by injection e; omega)

set_option maxRecDepth 100000 in
set_option maxHeartbeats 4000000 in
theorem own_any (R : Ro) (a : RA) (s : Int) (ps : List PV) (A : Option Addr) (n cc : Nat) (w : World) (hT : Tabs w) (h : RR w a R) (hp : SL (fun _ => True) w A n cc ps) (h8 : R.ks.length ≤ 8) (hn : n ≤ 1000) :
    Calls Tryz.prog 27 #[rval a R, .int .i64 s, .slice A n cc] w (OwnOk (ownL R s (ps.map Prod.snd)) w) := by
  obtain ⟨i0, hi0, hy0, hy1, hy2⟩ := info_parts info_value
  have HOW := Lib.hid fun (key : ByteArray) (wr : World) (hb : Below w.heap.size w wr) => owns_any R a s key wr (h.step hb)
  have HT := Lib.hid hT
  obtain ⟨KA, kn, kc, CA, cn, c1⟩ := a
  have HKS : Hid (KS w KA kn kc R.ks) := h.ks
  have HPS := Lib.hid hp
  have HN := Lib.hid hp.sr.ln
  have I0 : Hid (OwJ w (rarr ⟨KA, kn, kc, CA, cn, c1⟩ R) (.slice none 0 0) [] (w.alloc (Obj.cells (rarr ⟨KA, kn, kc, CA, cn, c1⟩ R) 45))) :=
    ⟨Blk.new_at rfl, by simp, ⟨own_nil _ _ _ _, fun p hp => by simp at hp, (Below.refl _ _).alloc (Nat.le_refl _) _⟩, by simp [Value.ownBlock]⟩
  clear h hp hT
  go_enter Tryz.func27, Tryz.ntmps27
  go_upto_region 3 with fail
  change Code.wp _ _ _ _ (w.alloc (Obj.cells (rarr ⟨KA, kn, kc, CA, cn, c1⟩ R) 45))
  generalize w.alloc (Obj.cells (rarr ⟨KA, kn, kc, CA, cn, c1⟩ R) 45) = wa at *
  go_loopw [7, 9, 10, 11, 14] (fun u7 _ _ _ u14 wr => ∃ (i : Nat) (qs : List PV), i ≤ n ∧ qs.length ≤ i ∧ u14 = .int .i64 i ∧ ownL R s (ps.map Prod.snd) = qs.map Prod.snd ++ ownL R s ((ps.map Prod.snd).drop i) ∧ OwJ w (rarr ⟨KA, kn, kc, CA, cn, c1⟩ R) u7 qs wr) (fun _ _ _ _ u14 _ => n - (intOf u14).toNat)
  case atStart => exact ⟨0, [], Nat.zero_le _, Nat.le_refl _, rfl, rfl, I0.out⟩
  case round =>
    obtain ⟨i, qs, hi, hql, rfl, hall, J⟩ := hrel
    have HQL := Lib.hid hql
    have HA := Lib.hid hall
    have J2 := Lib.hid J
    clear hql hall J I0
    by_cases hlt : i < n
    · obtain ⟨p, hp⟩ : ∃ p, ps[i]? = some p := ⟨_, List.getElem?_eq_getElem (by have := HN.out; omega)⟩
      obtain ⟨b, off, hA, _, hat, hrv⟩ := HPS.out.vat hp
      subst hA
      have HPL : Hid ((ps.map Prod.snd)[i]? = some p.2) := by unfold Hid; rw [List.getElem?_map, hp]; rfl
      obtain ⟨q0, q1, q2, q3, q4⟩ := hat.keep (J2.out.vs.bel.block b hat.lt)
      have HRV := Lib.hid hrv
      have hbw : b < wr.heap.size := World.block_lt_of_cell? wr _ q0
      have i0' : (0 : Int) ≤ (i : Int) := by omega
      have i1' : (i : Int) < (n : Int) := by omega
      clear hp hat hrv
      go_upto_region 5 with fail
      change Code.wp _ _ _ _ (wr.alloc (Obj.cells p.1.arr 28))
      have JB : Hid (Blk (wr.alloc (Obj.cells p.1.arr 28)) wr.heap.size 28 p.1.arr) := Blk.new_at rfl
      have J3 := Lib.hid (J2.out.step ((Below.refl wr.heap.size wr).alloc (Nat.le_refl _) (Obj.cells p.1.arr 28)))
      generalize wr.alloc (Obj.cells p.1.arr 28) = wb at *
      generalize wr.heap.size = ga at *
      clear q0 q1 q2 q3 q4 J2 hbw
      obtain ⟨a0, a1, a2, a3, a4⟩ := VAt.of_blk JB.out
      simp only [Nat.zero_add] at a0 a1 a2 a3 a4
      obtain ⟨q0, q1, q2, q3, q4, q5, qz⟩ := blk_ro J3.out.b0
      simp only at q1 q5
      obtain ⟨⟨K1, K2⟩, hK⟩ : ∃ K, encR R.ks R.ha p.2 = K := ⟨_, rfl⟩
      have hE := senc_any R.ks R.ha KA kn kc p.2 p.1 wb (HT.out.step J3.out.vs.bel) (HKS.out.step J3.out.vs.bel) (HRV.out.step J3.out.vs.bel) h8
      rw [hK] at hE
      have HE := Lib.hid hE
      have HK := Lib.hid hK
      clear hE hK
      go_wp2_with fail
      refine HE.out.mono ?_
      rintro e w1 ⟨rfl, hb⟩
      have J4 := Lib.hid (J3.out.step hb)
      have JB4 := Lib.hid (JB.out.step hb)
      clear hb HE J3 JB a0 a1 a2 a3 a4 q0 q1 q2 q3 q4 q5 qz
      by_cases hk : K2 = 0
      rotate_left
      · have hkb : (K2 == 0) = false := by simpa using hk
        have HF : Hid (ownL R s (ps.map Prod.snd) = qs.map Prod.snd ++ ownL R s ((ps.map Prod.snd).drop (i + 1))) := by
          have : ownP R s p.2 = false := by unfold ownP; rw [HK.out, decide_eq_false hk]; rfl
          unfold Hid
          rw [HA.out, ownL_at HPL.out, this]
          rfl
        clear hk
        go_wp2_with fail
        go_roundw
        case rel => exact ⟨i + 1, qs, hlt, by have := HQL.out; omega, by go_num, HF.out, J4.out⟩
        case measure => simp [intOf]; omega
      subst hk
      obtain ⟨q0, q1, q2, q3, q4, q5, qz⟩ := blk_ro J4.out.b0
      simp only at q1 q5
      have HO1 := Lib.hid (HOW.out K1 w1 J4.out.vs.bel)
      cases ho : ownsB R s K1
      · have HF : Hid (ownL R s (ps.map Prod.snd) = qs.map Prod.snd ++ ownL R s ((ps.map Prod.snd).drop (i + 1))) := by
          have : ownP R s p.2 = false := by unfold ownP; rw [HK.out, ho, Bool.and_false]
          unfold Hid
          rw [HA.out, ownL_at HPL.out, this]
          rfl
        rw [ho] at HO1
        clear ho
        go_wp2_with fail
        refine HO1.out.mono ?_
        rintro e w2 ⟨rfl, hb⟩
        have J5 := Lib.hid (J4.out.step hb)
        clear hb HO1 J4 JB4 q0 q1 q2 q3 q4 q5 qz
        go_wp2_with fail
        go_roundw
        case rel => exact ⟨i + 1, qs, hlt, by have := HQL.out; omega, by go_num, HF.out, J5.out⟩
        case measure => simp [intOf]; omega
      · have HF : Hid (ownL R s (ps.map Prod.snd) = (qs.map Prod.snd ++ [p.2]) ++ ownL R s ((ps.map Prod.snd).drop (i + 1))) := by
          have : ownP R s p.2 = true := by unfold ownP; rw [HK.out, ho]; rfl
          unfold Hid
          rw [HA.out, ownL_at HPL.out, this]
          simp
        rw [ho] at HO1
        clear ho
        go_wp2_with fail
        refine HO1.out.mono ?_
        rintro e w2 ⟨rfl, hb⟩
        have J5 := Lib.hid (J4.out.step hb)
        have JB5 := Lib.hid (JB4.out.step hb)
        clear hb HO1 J4 JB4 q0 q1 q2 q3 q4 q5 qz
        obtain ⟨a0, a1, a2, a3, a4⟩ := VAt.of_blk JB5.out
        simp only [Nat.zero_add] at a0 a1 a2 a3 a4
        have HC := Lib.hid (vcopied_any p.2 p.1 w2 (HRV.out.step J5.out.vs.bel))
        go_wp2_with fail
        refine HC.out.mono ?_
        rintro e w3 ⟨c9, rfl, hr, hb⟩
        have hlo : w.heap.size ≤ w3.heap.size := (J5.out.step hb).vs.bel.size
        have hqi : qs.length ≤ 1000 := by have := HQL.out; omega
        have LK := Lib.hid ((J5.out.step hb).step ((Below.refl w3.heap.size w3).alloc (Nat.le_refl _) (Obj.cells c9.arr 28)))
        have HRZ : Hid (RV (fun b => Value.ownBlock u7 ≠ some b) (w3.alloc (Obj.cells c9.arr 28)) c9 p.2) := (hr.alloc _).mono fun b hb' => J5.out.vs.far (.inr hb')
        clear hb hr HC a0 a1 a2 a3 a4 J5 JB5
        go_wp2_with (at_builtin; refine wpList_append_any _ rfl _ _ 25 rfl w.heap.size 28 i0 VC.zero.val 5 80 Tryz.underlying25 hi0 hy0 hy1 hy2 rfl (by decide) u7 qs.length (flat recV qs) rfl LK.out.vs.own _ _ 1 _ (recV (c9, p.2)) rfl ⟨rfl, fun _ => ⟨_, rfl, Nat.lt_succ_self _, news_at _ _ _⟩⟩ (recV_one _) (by unfold maxLen; omega) (by omega) (alloc_le hlo _) ?_)
        intro v' w6 hown hgr hat
        have HI := Lib.hid (LK.out.add (p := (c9, p.2)) HRZ.out rfl hown hgr (by rw [size_alloc]; exact hat))
        clear hown hgr hat LK HRZ
        go_wp2_with fail
        go_roundw
        case rel => exact ⟨i + 1, qs ++ [(c9, p.2)], hlt, by rw [List.length_append]; have := HQL.out; simp; omega, by go_num, by rw [HF.out]; simp, HI.out⟩
        case measure => simp [intOf]; omega
    · obtain rfl : i = n := by omega
      have HF : Hid (ownL R s (ps.map Prod.snd) = qs.map Prod.snd) := by
        unfold Hid
        rw [HA.out, List.drop_of_length_le (by rw [List.length_map]; have := HN.out; omega)]
        simp [ownL]
      obtain ⟨A1, c2, hu, hsl⟩ := J2.out.vs.sl (by have := HQL.out; omega)
      have HSL := Lib.hid hsl
      subst hu
      clear hsl
      go_wp2_with fail
      go_ret
      exact ⟨A1, qs.length, c2, qs, rfl, HF.out.symm, HSL.out, J2.out.vs.bel⟩

end Go.Proofs.YtblepmmibhphhaaGreatDoor


/- What the router's first check computes, at closed arguments. -/
namespace Go.Proofs.YtblepmmibhphhaaGreatDoor
open Go.RowKit

set_option maxRecDepth 100000 in
set_option maxHeartbeats 1000000 in
theorem after1_any (s : ByteArray) (x : Nat) (w : World) (hs : s.size = 1) (hx : ((s[0]'(by omega)).toNat : Int) = (x : Int)) (hx2 : x < 255) :
    Calls Tryz.prog 113 #[.string s] w fun e w' => e = .returned (.tuple #[.string (strOfNums [((x + 1 : Nat) : Int)]), .bool true]) ∧ Below w.heap.size w w' := by
  have h1 : ((x : Int) == 255) = false := by simp; omega
  have h2 : ((x : Int) + 1) % 256 = ((x + 1 : Nat) : Int) := by omega
  obtain ⟨z, hz⟩ : ∃ z : Int, z = ((x + 1 : Nat) : Int) := ⟨_, rfl⟩
  have hzx : z = (x : Int) + 1 := by omega
  have hcv : (convert 114 9 (.slice (some ⟨w.heap.size, 0, none⟩) 1 1)).run Tryz.prog ((w.alloc (Obj.cells #[.int .u8 ((x : Int) + 1)] 5)).drew) = .ok (.string (strOfNums [z])) ((w.alloc (Obj.cells #[.int .u8 ((x : Int) + 1)] 5)).drew) := by
    rw [← hzx]
    refine run_convert_bytes_arg (P := Tryz.prog) _ 114 5 Tryz.underlying114 Tryz.underlying5 w.heap.size 0 1 1 [z] rfl (fun i hi => ?_) 9 Tryz.underlying9
    obtain rfl : i = 0 := by omega
    exact (Blk.new w 5 #[.int .u8 z]).drew.cell 0
  rw [← hz]
  obtain ⟨Z, hZ⟩ : ∃ Z, Z = strOfNums [z] := ⟨_, rfl⟩
  rw [← hZ] at hcv ⊢
  have hZs : Z.size = 1 := by rw [hZ, strOfNums_size]; rfl
  have HZ := Lib.hid hZ
  have HZZ := Lib.hid hz
  clear hz hZ h2 hzx
  go_enter Tryz.func113, Tryz.ntmps113
  go_upto_region 2 with fail
  go_loopw [4] (fun v wr => v = .int .i64 1 ∧ wr = w) (fun _ _ => 0)
  case atStart => exact ⟨rfl, rfl⟩
  case round =>
    obtain ⟨rfl, rfl⟩ := hrel
    go_wp2_with fail
    go_region
    all_goals
      go_wp2_with fail
      go_ret2
      exact ⟨rfl, ((Below.refl _ _).alloc (Nat.le_refl _) _).drew⟩

abbrev k10 : ByteArray := ⟨#[3, 128, 0, 0, 0, 0, 0, 0, 10]⟩
abbrev k9 : ByteArray := ⟨#[3, 128, 0, 0, 0, 0, 0, 0, 9]⟩
abbrev k11 : ByteArray := ⟨#[3, 128, 0, 0, 0, 0, 0, 0, 11]⟩
abbrev k3 : ByteArray := ⟨#[3, 128, 0, 0, 0, 0, 0, 0, 3]⟩
theorem keyR_10 : keyR [vI 10] = (k10, 0) := by rw [keyR_i, key10_eq]
theorem after_10 (w : World) : Calls Tryz.prog 113 #[.string k10] w fun e w' => e = .returned (.tuple #[.string (k10.extract 0 8 ++ strOfNums [((10 + 1 : Nat) : Int)]), .bool true]) ∧ Below w.heap.size w w' :=
  after9_any k10 10 w rfl rfl (by omega)
theorem k11_eq : k10.extract 0 8 ++ strOfNums [((10 + 1 : Nat) : Int)] = k11 := by kernel_rfl
theorem sound_vMin : SoundV nameB vMin := (SoundV_iff _ _).2 ⟨by simp [HeadP, vMin, Val.k, Val.n, Val.t, Val.l, Val.d], by simp [vMin, Val.l], by simp [vMin, Val.d], by simp [vMin, Val.d, NamesP]⟩
theorem valid_vMin : validV vMin = true := by
  have h1 : vMin.size = 1 := by simp [vMin, Val.size]
  have h2 : vMin.height = 1 := by simp [vMin, Val.height]
  unfold validV
  rw [decide_eq_true (by omega), decide_eq_true (by omega), soundB_true sound_vMin]
  rfl
theorem sound_vMax : SoundV nameB vMax := (SoundV_iff _ _).2 ⟨by simp [HeadP, vMax, Val.k, Val.n, Val.t, Val.l, Val.d], by simp [vMax, Val.l], by simp [vMax, Val.d], by simp [vMax, Val.d, NamesP]⟩
theorem valid_vMax : validV vMax = true := by
  have h1 : vMax.size = 1 := by simp [vMax, Val.size]
  have h2 : vMax.height = 1 := by simp [vMax, Val.height]
  unfold validV
  rw [decide_eq_true (by omega), decide_eq_true (by omega), soundB_true sound_vMax]
  rfl
theorem keyR_min : keyR [vMin] = (⟨#[1]⟩, 0) := by
  rw [keyR_yes (by unfold allowsB; simp [allow_valid valid_vMin])]
  have : strOfNums (encAll [vMin]) = ⟨#[1]⟩ := by kernel_rfl
  rw [this]
theorem keyR_max : keyR [vMax] = (⟨#[11]⟩, 0) := by
  rw [keyR_yes (by unfold allowsB; simp [allow_valid valid_vMax])]
  have : strOfNums (encAll [vMax]) = ⟨#[11]⟩ := by kernel_rfl
  rw [this]
theorem after_max (w : World) : Calls Tryz.prog 113 #[.string ⟨#[11]⟩] w fun e w' => e = .returned (.tuple #[.string (strOfNums [((11 + 1 : Nat) : Int)]), .bool true]) ∧ Below w.heap.size w w' :=
  after1_any ⟨#[11]⟩ 11 w rfl rfl (by omega)
abbrev cc0 : Ch := ⟨ByteArray.empty, k10, 0, 2, false⟩
abbrev cc1 : Ch := ⟨k10, ByteArray.empty, 1, 1, false⟩
abbrev R50 : Ro := ⟨⟨#[115]⟩, ks1, false, 1, 2, [cc0, cc1]⟩
theorem out_10 : outL (k10, k11) R50.cs = [1] := by kernel_rfl
theorem out_all : outL (ByteArray.empty, ByteArray.empty) R50.cs = [0, 1] := by kernel_rfl
theorem enc_9 : encR ks1 false (vD 9) = (k9, 0) := by rw [enc_d, key9_eq]
theorem enc_3 : encR ks1 false (vD 3) = (k3, 0) := by rw [enc_d, key3_eq]
theorem enc_11 : encR ks1 false (vD 11) = (k11, 0) := by rw [enc_d, key11_eq]
theorem idx_9 : idxI (inB k9) R50.cs = 0 := by kernel_rfl
theorem own_9 : ownC R50 k9 = 0 := by kernel_rfl
theorem rou_9 : rouR R50 (vD 9) = (0, 0) := by
  unfold rouR
  rw [show encR R50.ks R50.ha (vD 9) = (k9, 0) from enc_9]
  rw [if_pos rfl, idx_9, if_neg (by decide), own_9]
theorem owns_10 : ownsB R50 1 k10 = true := by kernel_rfl
theorem owns_10' : ownsB R50 0 k10 = false := by kernel_rfl
theorem ver_0 : verR 0 R50.cs = 2 := by kernel_rfl
theorem ver_1 : verR 1 R50.cs = 1 := by kernel_rfl
theorem chk_0 : chkE R50 (verR 0 R50.cs) 1 2 = 0 := by rw [ver_0]; rfl
theorem chk_1 : chkE R50 (verR 1 R50.cs) 1 2 = 27 := by rw [ver_1]; rfl
theorem owns_3 : ownsB R50 1 k3 = false := by kernel_rfl
theorem owns_11 : ownsB R50 1 k11 = true := by kernel_rfl
theorem ownl_50 : ownL R50 1 [vD 3, vD 11] = [vD 11] := by
  have h3 : ownP R50 1 (vD 3) = false := by
    unfold ownP
    rw [show encR R50.ks R50.ha (vD 3) = (k3, 0) from enc_3, owns_3]
    rfl
  have h11 : ownP R50 1 (vD 11) = true := by
    unfold ownP
    rw [show encR R50.ks R50.ha (vD 11) = (k11, 0) from enc_11, owns_11]
    rfl
  unfold ownL
  rw [List.filter_cons, h3, List.filter_cons, h11]
  rfl

end Go.Proofs.YtblepmmibhphhaaGreatDoor


/- The router's first check. Printed by gen_roawake.py. -/
namespace Go.Proofs.YtblepmmibhphhaaGreatDoor
open Go.RowKit
set_option linter.unusedSimpArgs false

abbrev fieldA (n : Int) : Array Value := #[.string ka, .int .i64 3, .int .i64 n, .string ByteArray.empty, .slice none 0 0, .slice none 0 0]
theorem srn_list {w : World} {g n : Nat} {t : TypeId} {l : List Int} (h : Blk w g t (flat recN l).toArray) (hn : n = l.length) : SR 1 recN w (some ⟨g, 0, none⟩) n n l := by
  refine ⟨hn, Nat.le_refl _, fun _ => ⟨g, 0, rfl, h.lt, fun i a hi j v hj => ?_⟩⟩
  rw [Nat.zero_add, h.cell, List.getElem?_toArray]
  exact flat_get recN_length hi hj
theorem slr_list {w : World} {g n : Nat} {ps : List PV} (h : Blk w g 28 (flat recV ps).toArray) (hn : n = ps.length) (hz : n * 80 ≤ reach) (hok : ∀ p ∈ ps, RW w p.1 p.2) : SL (fun _ => True) w (some ⟨g, 0, none⟩) n n ps := by
  refine ⟨⟨hn, Nat.le_refl _, fun _ => ⟨g, 0, rfl, h.lt, fun i a hi j v hj => ?_⟩⟩, hz, fun _ => ⟨_, _, rfl, Ft.top⟩, hok⟩
  rw [Nat.zero_add, h.cell, List.getElem?_toArray]
  exact flat_get recV_length hi hj
theorem cs_list {w : World} {g n : Nat} {l : List Ch} (h : Blk w g 58 (flat recC l).toArray) (hn : n = l.length) (hz : n * 56 ≤ reach) : CS w (some ⟨g, 0, none⟩) n n l := by
  refine ⟨⟨hn, Nat.le_refl _, fun _ => ⟨g, 0, rfl, h.lt, fun i a hi j v hj => ?_⟩⟩, hz⟩
  rw [Nat.zero_add, h.cell, List.getElem?_toArray]
  exact flat_get recC_length hi hj
/-- a document with a number -/
def DocOk (n : Int) (w : World) (e : Ending) (w' : World) : Prop :=
  ∃ g : Nat, e = .returned (cD g).val ∧ Blk w' g 69 (fieldA n) ∧ Below w.heap.size w w'
set_option maxRecDepth 100000 in
set_option maxHeartbeats 1000000 in
theorem doc50_any (n : Int) (w : World) : Calls Tryz.prog 56 #[.int .i64 n] w (DocOk n w) := by
  obtain ⟨W2, hW⟩ : ∃ W2, (w.alloc (Obj.cells (cD (w.heap.size + 1)).arr 28)).alloc (Obj.cells (fieldA n) 69) = W2 := ⟨_, rfl⟩
  have hB : Hid (Blk W2 w.heap.size 28 (cD (w.heap.size + 1)).arr) := by rw [← hW]; exact (Blk.new_at rfl).alloc _
  have hF : Hid (Blk W2 (w.heap.size + 1) 69 (fieldA n)) := by rw [← hW]; exact Blk.new_at (by simp)
  have hE : Hid (Below w.heap.size w W2) := by rw [← hW]; exact ((Below.refl _ _).alloc (Nat.le_refl _) _).alloc (by simp) _
  have HW := Lib.hid hW
  clear hW
  go_enter Tryz.func56, Tryz.ntmps56
  go_wp2_with fail
  change bodyPost _ _ _ _ _ ((w.alloc (Obj.cells (cD (w.heap.size + 1)).arr 28)).alloc (Obj.cells (fieldA n) 69))
  rw [HW.out]
  have hV := VAt.of_blk hB.out
  exact bodyPost_ret (results_val rfl _ w.heap.size 0 rfl _ (cD (w.heap.size + 1)) hV) rfl ⟨w.heap.size + 1, rfl, hF.out, hE.out⟩

set_option maxRecDepth 100000 in
set_option maxHeartbeats 4000000 in
theorem awake50_any (w : World) (hT : Tabs w) : Calls Tryz.prog 21 #[] w fun e w' => e = .returned (.bool true) ∧ Below w.heap.size w w' := by
  have HT := Lib.hid hT
  clear hT
  obtain ⟨W1, hW⟩ : ∃ W1, (((w.alloc (Obj.cells #[.string ka] 9)).alloc (Obj.cells (cI 10).arr 28)).alloc (Obj.cells (cI 10).arr 28)).alloc (Obj.cells #[.bool false] 4) = W1 := ⟨_, rfl⟩
  have P0 : Hid (Blk W1 w.heap.size 9 #[.string ka]) := by rw [← hW]; exact (((Blk.new_at rfl).alloc _).alloc _).alloc _
  have P1 : Hid (Blk W1 (w.heap.size + 1) 28 (cI 10).arr) := by rw [← hW]; exact ((Blk.new_at (by simp)).alloc _).alloc _
  have P2 : Hid (Blk W1 (w.heap.size + 1 + 1) 28 (cI 10).arr) := by rw [← hW]; exact (Blk.new_at (by simp)).alloc _
  have P3 : Hid (Blk W1 (w.heap.size + 1 + 1 + 1) 4 #[.bool false]) := by rw [← hW]; exact Blk.new_at (by simp)
  have Z1 : Hid (Below w.heap.size w W1) := by rw [← hW]; exact ((((Below.refl _ _).alloc (Nat.le_refl _) _).alloc (by simp) _).alloc (by simp; omega) _).alloc (by simp; omega) _
  have HENC : Hid (Calls Tryz.prog 46 #[.slice (some ⟨w.heap.size + 1 + 1, 0, none⟩) 1 1, .slice (some ⟨w.heap.size + 1 + 1 + 1, 0, none⟩) 1 1] W1 fun e w' => e = .returned (.tuple #[.string k10, .int .i64 0]) ∧ Below W1.heap.size W1 w') := Lib.hid (by
    have := rencode_any [(cI 10, vI 10)] (some ⟨w.heap.size + 1 + 1, 0, none⟩) (some ⟨w.heap.size + 1 + 1 + 1, 0, none⟩) 1 1 1 W1 (sl_one P2.out (rw_i 10 _)) (sx_one P3.out) (by omega)
    rw [show [(cI 10, vI 10)].map Prod.snd = [vI 10] from rfl, keyR_10] at this
    exact this)
  have HW := Lib.hid hW
  clear hW
  go_enter Tryz.func21, Tryz.ntmps21
  go_wp2_with fail
  change Calls _ _ _ ((((w.alloc (Obj.cells #[.string ka] 9)).alloc (Obj.cells (cI 10).arr 28)).alloc (Obj.cells (cI 10).arr 28)).alloc (Obj.cells #[.bool false] 4)) _
  rw [HW.out]
  refine HENC.out.mono ?_
  rintro e w5 ⟨rfl, hb⟩
  replace P0 := Lib.hid (P0.out.step hb)
  replace P1 := Lib.hid (P1.out.step hb)
  have Z5 := Lib.hid (Z1.out.step' hb)
  clear hb HENC HW P2 P3 Z1
  obtain ⟨x0, x1, x2, x3, x4⟩ := VAt.of_blk P1.out
  simp only [Nat.zero_add] at x0 x1 x2 x3 x4
  go_upto_region 5 with fail
  obtain ⟨W6, hW⟩ : ∃ W6, ((w5.alloc (Obj.cells #[.slice (some ⟨w.heap.size, 0, none⟩) 1 1, .bool false] 65)).alloc (Obj.cells (flat recC [cc0, cc1]).toArray 58)).alloc (Obj.cells (rarr ⟨some ⟨w5.heap.size, 0, none⟩, 1, 1, some ⟨w5.heap.size + 1, 0, none⟩, 2, 2⟩ R50) 45) = W6 := ⟨_, rfl⟩
  have Q0 : Hid (Blk W6 w5.heap.size 65 #[.slice (some ⟨w.heap.size, 0, none⟩) 1 1, .bool false]) := by rw [← hW]; exact ((Blk.new_at rfl).alloc _).alloc _
  have Q1 : Hid (Blk W6 (w5.heap.size + 1) 58 (flat recC [cc0, cc1]).toArray) := by rw [← hW]; exact (Blk.new_at (by simp)).alloc _
  have Q2 : Hid (Blk W6 (w5.heap.size + 1 + 1) 45 (rarr ⟨some ⟨w5.heap.size, 0, none⟩, 1, 1, some ⟨w5.heap.size + 1, 0, none⟩, 2, 2⟩ R50)) := by rw [← hW]; exact Blk.new_at (by simp)
  have hb6 : Below w5.heap.size w5 W6 := by rw [← hW]; exact (((Below.refl _ _).alloc (Nat.le_refl _) _).alloc (by simp) _).alloc (by simp; omega) _
  replace P0 := Lib.hid (P0.out.step hb6)
  replace P1 := Lib.hid (P1.out.step hb6)
  have Z6 := Lib.hid (Z5.out.step' hb6)
  change Code.wp _ _ _ _ (((w5.alloc (Obj.cells #[.slice (some ⟨w.heap.size, 0, none⟩) 1 1, .bool false] 65)).alloc (Obj.cells (flat recC [cc0, cc1]).toArray 58)).alloc (Obj.cells (rarr ⟨some ⟨w5.heap.size, 0, none⟩, 1, 1, some ⟨w5.heap.size + 1, 0, none⟩, 2, 2⟩ R50) 45))
  rw [hW]
  clear hW hb6 x0 x1 x2 x3 x4 Z5
  generalize w5.heap.size + 1 + 1 = gr at *
  generalize w5.heap.size + 1 = gc at *
  generalize w5.heap.size = go at *
  generalize w.heap.size + 1 = gt at *
  obtain ⟨x0, x1, x2, x3, x4⟩ := VAt.of_blk P1.out
  simp only [Nat.zero_add] at x0 x1 x2 x3 x4
  obtain ⟨q0, q1, q2, q3, q4, q5, qz⟩ := blk_ro Q2.out
  simp only at q1 q5
  have RRR : Hid (RR W6 (⟨some ⟨go, 0, none⟩, 1, 1, some ⟨gc, 0, none⟩, 2, 2⟩ : RA) R50) := Lib.hid ⟨by show 1 ≤ reach; decide, ks_ka P0.out Q0.out, cs_list Q1.out rfl (by show 2 * 56 ≤ reach; decide)⟩
  have HT1 : Hid (Calls Tryz.prog 55 #[rval (⟨some ⟨go, 0, none⟩, 1, 1, some ⟨gc, 0, none⟩, 2, 2⟩ : RA) R50, .agg (predA 2 (some ⟨w.heap.size, 0, none⟩) 1 1 (cI 10))] W6 fun e w' => ∃ A' n c', e = .returned (.slice A' n c') ∧ SR 1 recN w' A' n c' [1] ∧ Below W6.heap.size W6 w') := Lib.hid (by
    have := targets_any R50 (⟨some ⟨go, 0, none⟩, 1, 1, some ⟨gc, 0, none⟩, 2, 2⟩ : RA) (predA 2 (some ⟨w.heap.size, 0, none⟩) 1 1 (cI 10)) rfl (k10, k10.extract 0 8 ++ strOfNums [((10 + 1 : Nat) : Int)]) W6 RRR.out (by show 2 ≤ 2; decide) (by rw [k11_eq, out_10]; exact .inl ⟨1, rfl⟩)
      (fun wr hb => ranges1_any (ptIv (vI 10)) true k10 k10 (k10.extract 0 8 ++ strOfNums [((10 + 1 : Nat) : Int)]) k10 (k10.extract 0 8 ++ strOfNums [((10 + 1 : Nat) : Int)]) (predA 2 (some ⟨w.heap.size, 0, none⟩) 1 1 (cI 10)) rfl ⟨some ⟨w.heap.size, 0, none⟩, 1, 1, false⟩ go 0 1 1 wr (HT.out.step (Z6.out.step' hb)) (by omega) ((Q0.out.step hb).cell 0) ⟨rfl, rfl⟩ keyR_10 keyR_10 (.inl ⟨by show (3 : Int) ≠ 1; decide, by show (3 : Int) ≠ 11; decide, rfl, rfl⟩) after_10
        (fun wq hq => of_eq (vI 10) (cI 10) (some ⟨w.heap.size, 0, none⟩) (some ⟨w.heap.size, 0, none⟩) 1 1 1 1 [ka] wq (HT.out.step ((Z6.out.step' hb).step' hq)) (rw_i 10 wq) (valid_i 10) (by show (3 : Int) ≠ 6; decide) (by show (3 : Int) ≠ 2; decide) (st_ka ((P0.out.step hb).step hq)) (st_ka ((P0.out.step hb).step hq)) same_ka))
    rw [k11_eq, out_10] at this
    exact this)
  have HT2 : Hid (∀ wy, Below W6.heap.size W6 wy → Calls Tryz.prog 55 #[rval (⟨some ⟨go, 0, none⟩, 1, 1, some ⟨gc, 0, none⟩, 2, 2⟩ : RA) R50, .agg (predA 1 none 0 0 VC.zero)] wy fun e w' => ∃ A' n c', e = .returned (.slice A' n c') ∧ SR 1 recN w' A' n c' [0, 1] ∧ Below wy.heap.size wy w') := Lib.hid fun wy hy => by
    have := targets_any R50 (⟨some ⟨go, 0, none⟩, 1, 1, some ⟨gc, 0, none⟩, 2, 2⟩ : RA) (predA 1 none 0 0 VC.zero) rfl (ByteArray.empty, ByteArray.empty) wy (RRR.out.step hy) (by show 2 ≤ 2; decide) (by rw [out_all]; exact .inr ⟨0, 1, by decide, rfl⟩)
      (fun wr hb => ranges1_any allIv false ⟨#[1]⟩ ⟨#[11]⟩ (strOfNums [((11 + 1 : Nat) : Int)]) ByteArray.empty ByteArray.empty (predA 1 none 0 0 VC.zero) rfl ⟨some ⟨w.heap.size, 0, none⟩, 1, 1, false⟩ go 0 1 1 wr (HT.out.step ((Z6.out.step' hy).step' hb)) (by omega) (((Q0.out.step hy).step hb).cell 0) ⟨rfl, rfl⟩ keyR_min keyR_max (.inr ⟨rfl, rfl, rfl, rfl⟩) after_max
        (fun wq hq => of_true (some ⟨w.heap.size, 0, none⟩) 1 1 [ka] wq (st_ka (((P0.out.step hy).step hb).step hq)) rfl))
    rw [out_all] at this
    exact this
  go_wp2_with fail
  refine HT1.out.mono ?_
  rintro e w7 ⟨A1, n1, c1, rfl, hs1, hb⟩
  obtain rfl : n1 = 1 := hs1.ln
  have HN2 := Lib.hid (HT2.out w7 hb)
  have S1 := Lib.hid hs1
  replace Q2 := Lib.hid (Q2.out.step hb)
  replace RRR := Lib.hid (RRR.out.step hb)
  have Z7 := Lib.hid (Z6.out.step' hb)
  clear hb hs1 HT1 HT2 Z6 Q0 Q1 P0 P1 x0 x1 x2 x3 x4 q0 q1 q2 q3 q4 q5 qz
  obtain ⟨q0, q1, q2, q3, q4, q5, qz⟩ := blk_ro Q2.out
  simp only at q1 q5
  go_wp2_with fail
  refine HN2.out.mono ?_
  rintro e w8 ⟨A2, n2, c2, rfl, hs2, hb⟩
  obtain rfl : n2 = 2 := hs2.ln
  have S2 := Lib.hid hs2
  replace S1 := Lib.hid (S1.out.step hb)
  replace Q2 := Lib.hid (Q2.out.step hb)
  replace RRR := Lib.hid (RRR.out.step hb)
  have Z8 := Lib.hid (Z7.out.step' hb)
  clear hb hs2 HN2 Z7 q0 q1 q2 q3 q4 q5 qz
  obtain ⟨q0, q1, q2, q3, q4, q5, qz⟩ := blk_ro Q2.out
  simp only at q1 q5
  go_upto_region 7 with fail
  have B := Lib.hid ((Below.refl w8.heap.size w8).drewN 1)
  have KSS : Hid (∀ w', Below w8.heap.size w8 w' → w'.cell? ⟨gr, 0, none⟩ = some (.string R50.sp) ∧ w'.cell? ⟨gr, 1, none⟩ = some (.slice (some ⟨go, 0, none⟩) 1 1) ∧ w'.cell? ⟨gr, 2, none⟩ = some (.bool R50.ha) ∧ w'.cell? ⟨gr, 3, none⟩ = some (.int .i64 R50.ep) ∧ w'.cell? ⟨gr, 4, none⟩ = some (.int .i64 R50.ver) ∧ w'.cell? ⟨gr, 5, none⟩ = some (.slice (some ⟨gc, 0, none⟩) 2 2)) := Lib.hid fun w' hb => ⟨(hb.cell (p := ⟨gr, 0, none⟩) Q2.out.lt).trans q0, (hb.cell (p := ⟨gr, 1, none⟩) Q2.out.lt).trans q1, (hb.cell (p := ⟨gr, 2, none⟩) Q2.out.lt).trans q2, (hb.cell (p := ⟨gr, 3, none⟩) Q2.out.lt).trans q3, (hb.cell (p := ⟨gr, 4, none⟩) Q2.out.lt).trans q4, (hb.cell (p := ⟨gr, 5, none⟩) Q2.out.lt).trans q5⟩
  have HROU : Hid (∀ (g : Nat) (wq : World), Tabs wq → RR wq (⟨some ⟨go, 0, none⟩, 1, 1, some ⟨gc, 0, none⟩, 2, 2⟩ : RA) R50 → RW wq (cD g) (vD 9) → Calls Tryz.prog 22 #[rval (⟨some ⟨go, 0, none⟩, 1, 1, some ⟨gc, 0, none⟩, 2, 2⟩ : RA) R50, (cD g).val] wq fun e w' => e = .returned (.tuple #[.int .i64 0, .int .i64 0]) ∧ Below wq.heap.size wq w') := Lib.hid fun g wq ht hk hr => by
    have := route_any R50 (⟨some ⟨go, 0, none⟩, 1, 1, some ⟨gc, 0, none⟩, 2, 2⟩ : RA) (vD 9) (cD g) wq ht hk hr (by decide)
    rw [rou_9] at this
    exact this
  clear q0 q1 q2 q3 q4 q5 qz
  go_cut [8, 9] (fun v8 v9 wx => v8 = .int .i64 0 ∧ v9 = .int .i64 0 ∧ Below w8.heap.size w8 wx)
  case first =>
    go_region_held3 (fun w' => w'.cell? ⟨gr, 0, none⟩ = some (.string R50.sp) ∧ w'.cell? ⟨gr, 1, none⟩ = some (.slice (some ⟨go, 0, none⟩) 1 1) ∧ w'.cell? ⟨gr, 2, none⟩ = some (.bool R50.ha) ∧ w'.cell? ⟨gr, 3, none⟩ = some (.int .i64 R50.ep) ∧ w'.cell? ⟨gr, 4, none⟩ = some (.int .i64 R50.ver) ∧ w'.cell? ⟨gr, 5, none⟩ = some (.slice (some ⟨gc, 0, none⟩) 2 2))
      (first | exact KSS.out _ B.out | ((try dsimp only); assumption) | go_keep)
      (first
        | (go_at_call 56; refine (doc50_any 9 _).mono ?_; rintro e3 w3 ⟨gd, rfl, hd, hb⟩; replace B := Lib.hid (B.out.step' hb); have HD := Lib.hid hd; clear hb hd)
        | (go_at_call 22; refine (HROU.out gd _ (HT.out.step (Z8.out.step' B.out)) (RRR.out.step B.out) (rw_d HD.out)).mono ?_; rintro e4 w4 ⟨rfl, hb⟩; replace B := Lib.hid (B.out.step' hb); clear hb))
    all_goals
      go_wp2_with fail
      go_meet
      exact ⟨rfl, rfl, B.out⟩
  case rest =>
    obtain ⟨rfl, rfl, hb9⟩ := hcut
    replace S1 := Lib.hid (S1.out.step hb9)
    replace S2 := Lib.hid (S2.out.step hb9)
    replace Q2 := Lib.hid (Q2.out.step hb9)
    replace RRR := Lib.hid (RRR.out.step hb9)
    have Z9 := Lib.hid (Z8.out.step' hb9)
    clear hb9 KSS B HROU Z8
    generalize wc = w9 at *
    obtain ⟨q0, q1, q2, q3, q4, q5, qz⟩ := blk_ro Q2.out
    simp only at q1 q5
    have KSS : Hid (∀ w', Below w9.heap.size w9 w' → w'.cell? ⟨gr, 0, none⟩ = some (.string R50.sp) ∧ w'.cell? ⟨gr, 1, none⟩ = some (.slice (some ⟨go, 0, none⟩) 1 1) ∧ w'.cell? ⟨gr, 2, none⟩ = some (.bool R50.ha) ∧ w'.cell? ⟨gr, 3, none⟩ = some (.int .i64 R50.ep) ∧ w'.cell? ⟨gr, 4, none⟩ = some (.int .i64 R50.ver) ∧ w'.cell? ⟨gr, 5, none⟩ = some (.slice (some ⟨gc, 0, none⟩) 2 2)) := Lib.hid fun w' hb => ⟨(hb.cell (p := ⟨gr, 0, none⟩) Q2.out.lt).trans q0, (hb.cell (p := ⟨gr, 1, none⟩) Q2.out.lt).trans q1, (hb.cell (p := ⟨gr, 2, none⟩) Q2.out.lt).trans q2, (hb.cell (p := ⟨gr, 3, none⟩) Q2.out.lt).trans q3, (hb.cell (p := ⟨gr, 4, none⟩) Q2.out.lt).trans q4, (hb.cell (p := ⟨gr, 5, none⟩) Q2.out.lt).trans q5⟩
    have OW1 : Hid (∀ wr, Below w9.heap.size w9 wr → Calls Tryz.prog 24 #[rval (⟨some ⟨go, 0, none⟩, 1, 1, some ⟨gc, 0, none⟩, 2, 2⟩ : RA) R50, .int .i64 1, .string k10] wr fun e w' => e = .returned (.bool true) ∧ Below wr.heap.size wr w') := Lib.hid fun wr hb => by
      have := owns_any R50 (⟨some ⟨go, 0, none⟩, 1, 1, some ⟨gc, 0, none⟩, 2, 2⟩ : RA) 1 k10 wr (RRR.out.step hb)
      rw [owns_10] at this
      exact this
    have OW0 : Hid (∀ wr, Below w9.heap.size w9 wr → Calls Tryz.prog 24 #[rval (⟨some ⟨go, 0, none⟩, 1, 1, some ⟨gc, 0, none⟩, 2, 2⟩ : RA) R50, .int .i64 0, .string k10] wr fun e w' => e = .returned (.bool false) ∧ Below wr.heap.size wr w') := Lib.hid fun wr hb => by
      have := owns_any R50 (⟨some ⟨go, 0, none⟩, 1, 1, some ⟨gc, 0, none⟩, 2, 2⟩ : RA) 0 k10 wr (RRR.out.step hb)
      rw [owns_10'] at this
      exact this
    have CK0 : Hid (∀ wr, Below w9.heap.size w9 wr → Calls Tryz.prog 29 #[rval (⟨some ⟨go, 0, none⟩, 1, 1, some ⟨gc, 0, none⟩, 2, 2⟩ : RA) R50, .int .i64 0, .int .i64 1, .int .i64 2] wr fun e w' => e = .returned (.int .i64 0) ∧ Below wr.heap.size wr w') := Lib.hid fun wr hb => by
      have := check_any R50 (⟨some ⟨go, 0, none⟩, 1, 1, some ⟨gc, 0, none⟩, 2, 2⟩ : RA) 0 1 2 wr (RRR.out.step hb)
      rw [chk_0] at this
      exact this
    have CK1 : Hid (∀ wr, Below w9.heap.size w9 wr → Calls Tryz.prog 29 #[rval (⟨some ⟨go, 0, none⟩, 1, 1, some ⟨gc, 0, none⟩, 2, 2⟩ : RA) R50, .int .i64 1, .int .i64 1, .int .i64 2] wr fun e w' => e = .returned (.int .i64 27) ∧ Below wr.heap.size wr w') := Lib.hid fun wr hb => by
      have := check_any R50 (⟨some ⟨go, 0, none⟩, 1, 1, some ⟨gc, 0, none⟩, 2, 2⟩ : RA) 1 1 2 wr (RRR.out.step hb)
      rw [chk_1] at this
      exact this
    clear q0 q1 q2 q3 q4 q5 qz
    go_upto_region 8 with fail
    have B := Lib.hid ((Below.refl w9.heap.size w9).drew)
    refine wp_region_noPanic ?_
    refine wp_region_held_drew (S := (fun w' => w'.cell? ⟨gr, 0, none⟩ = some (.string R50.sp) ∧ w'.cell? ⟨gr, 1, none⟩ = some (.slice (some ⟨go, 0, none⟩) 1 1) ∧ w'.cell? ⟨gr, 2, none⟩ = some (.bool R50.ha) ∧ w'.cell? ⟨gr, 3, none⟩ = some (.int .i64 R50.ep) ∧ w'.cell? ⟨gr, 4, none⟩ = some (.int .i64 R50.ver) ∧ w'.cell? ⟨gr, 5, none⟩ = some (.slice (some ⟨gc, 0, none⟩) 2 2))) (by kernel_rfl) ?_ (fun hHeld => ?_)
    · (try dsimp only); exact KSS.out _ B.out
    generalize w9.drew = v0 at *
    refine wpAnyH_take (i := 0) (v := ?_) (take_at rfl) (by kernel_rfl) (by kernel_rfl) (by kernel_rfl) (fun _ _ _ h => h) (Or.inl ⟨by rfl, ?_⟩) (by assumption) ?_
    rotate_left
    · intro w' hSw; (try dsimp only at hSw); go_simp; (try with_reducible rfl)
    (try simp only [Act.put, List.setIfInBounds_toArray, List.set_cons_zero, List.set_cons_succ])
    refine wpAnyH_ready (rs := [1]) (by kernel_rfl) (by simp) ?_
    refine AllReadyH.cons (take_at rfl) (fun K hK => ?_) AllReadyH.nil
    go_simp
    change K _ (v0.alloc (Obj.cells (flat recN [1]).toArray 3))
    have G1 : Hid (Blk (v0.alloc (Obj.cells (flat recN [1]).toArray 3)) v0.heap.size 3 (flat recN [1]).toArray) := Blk.new_at rfl
    replace B := Lib.hid (B.out.alloc B.out.size (Obj.cells (flat recN [1]).toArray 3))
    generalize v0.alloc (Obj.cells (flat recN [1]).toArray 3) = v1 at *
    generalize v0.heap.size = g1 at *
    refine hK.out _ _ ?_ (fun hHeld2 => ?_)
    · (try dsimp only); exact KSS.out _ B.out
    clear hK K hHeld
    have hHeld := hHeld2
    clear hHeld2
    (try simp only [Act.put, List.setIfInBounds_toArray, List.set_cons_zero, List.set_cons_succ])
    refine wpAnyH_ready (rs := [2]) (by kernel_rfl) (by simp) ?_
    refine AllReadyH.cons (take_at rfl) (fun K hK => ?_) AllReadyH.nil
    go_simp
    refine (equalN_any [1] A1 (some ⟨g1, 0, none⟩) 1 c1 1 v1 (S1.out.step B.out) (srn_list G1.out rfl) (by omega)).mono ?_
    rintro e3 v2 ⟨rfl, hb⟩
    replace B := Lib.hid (B.out.step' hb)
    clear hb
    (try go_wp2_with fail)
    refine hK.out _ _ ?_ (fun hHeld2 => ?_)
    · (try dsimp only); exact KSS.out _ B.out
    clear hK K hHeld
    have hHeld := hHeld2
    clear hHeld2
    (try simp only [Act.put, List.setIfInBounds_toArray, List.set_cons_zero, List.set_cons_succ])
    refine wpAnyH_take (i := 3) (v := ?_) (take_at rfl) (by kernel_rfl) (by kernel_rfl) (by kernel_rfl) (fun _ _ _ h => h) (Or.inl ⟨by rfl, ?_⟩) (by assumption) ?_
    rotate_left
    · intro w' hSw; (try dsimp only at hSw); go_simp; (try with_reducible rfl)
    (try simp only [Act.put, List.setIfInBounds_toArray, List.set_cons_zero, List.set_cons_succ])
    refine wpAnyH_take (i := 4) (v := ?_) (take_at rfl) (by kernel_rfl) (by kernel_rfl) (by kernel_rfl) (fun _ _ _ h => h) (Or.inl ⟨by rfl, ?_⟩) (by assumption) ?_
    rotate_left
    · intro w' hSw; (try dsimp only at hSw); go_simp; (try with_reducible rfl)
    (try simp only [Act.put, List.setIfInBounds_toArray, List.set_cons_zero, List.set_cons_succ])
    refine wpAnyH_ready (rs := [5]) (by kernel_rfl) (by simp) ?_
    refine AllReadyH.cons (take_at rfl) (fun K hK => ?_) AllReadyH.nil
    go_simp
    change K _ (v2.alloc (Obj.cells (flat recN [0, 1]).toArray 3))
    have G2 : Hid (Blk (v2.alloc (Obj.cells (flat recN [0, 1]).toArray 3)) v2.heap.size 3 (flat recN [0, 1]).toArray) := Blk.new_at rfl
    replace B := Lib.hid (B.out.alloc B.out.size (Obj.cells (flat recN [0, 1]).toArray 3))
    generalize v2.alloc (Obj.cells (flat recN [0, 1]).toArray 3) = v3 at *
    generalize v2.heap.size = g2 at *
    refine hK.out _ _ ?_ (fun hHeld2 => ?_)
    · (try dsimp only); exact KSS.out _ B.out
    clear hK K hHeld
    have hHeld := hHeld2
    clear hHeld2
    (try simp only [Act.put, List.setIfInBounds_toArray, List.set_cons_zero, List.set_cons_succ])
    refine wpAnyH_ready (rs := [6]) (by kernel_rfl) (by simp) ?_
    refine AllReadyH.cons (take_at rfl) (fun K hK => ?_) AllReadyH.nil
    go_simp
    refine (equalN_any [0, 1] A2 (some ⟨g2, 0, none⟩) 2 c2 2 v3 (S2.out.step B.out) (srn_list G2.out rfl) (by omega)).mono ?_
    rintro e3 v4 ⟨rfl, hb⟩
    replace B := Lib.hid (B.out.step' hb)
    clear hb
    (try go_wp2_with fail)
    refine hK.out _ _ ?_ (fun hHeld2 => ?_)
    · (try dsimp only); exact KSS.out _ B.out
    clear hK K hHeld
    have hHeld := hHeld2
    clear hHeld2
    (try simp only [Act.put, List.setIfInBounds_toArray, List.set_cons_zero, List.set_cons_succ])
    refine wpAnyH_take (i := 7) (v := ?_) (take_at rfl) (by kernel_rfl) (by kernel_rfl) (by kernel_rfl) (fun _ _ _ h => h) (Or.inl ⟨by rfl, ?_⟩) (by assumption) ?_
    rotate_left
    · intro w' hSw; (try dsimp only at hSw); go_simp; (try with_reducible rfl)
    (try simp only [Act.put, List.setIfInBounds_toArray, List.set_cons_zero, List.set_cons_succ])
    refine wpAnyH_take (i := 8) (v := ?_) (take_at rfl) (by kernel_rfl) (by kernel_rfl) (by kernel_rfl) (fun _ _ _ h => h) (Or.inl ⟨by rfl, ?_⟩) (by assumption) ?_
    rotate_left
    · intro w' hSw; (try dsimp only at hSw); go_simp; (try with_reducible rfl)
    (try simp only [Act.put, List.setIfInBounds_toArray, List.set_cons_zero, List.set_cons_succ])
    refine wpAnyH_take (i := 9) (v := ?_) (take_at rfl) (by kernel_rfl) (by kernel_rfl) (by kernel_rfl) (fun _ _ _ h => h) (Or.inl ⟨by rfl, ?_⟩) (by assumption) ?_
    rotate_left
    · intro w' hSw; (try dsimp only at hSw); go_simp; (try with_reducible rfl)
    (try simp only [Act.put, List.setIfInBounds_toArray, List.set_cons_zero, List.set_cons_succ])
    refine wpAnyH_take (i := 10) (v := ?_) (take_at rfl) (by kernel_rfl) (by kernel_rfl) (by kernel_rfl) (fun _ _ _ h => h) (Or.inl ⟨by rfl, ?_⟩) (by assumption) ?_
    rotate_left
    · intro w' hSw; (try dsimp only at hSw); go_simp; (try with_reducible rfl)
    (try simp only [Act.put, List.setIfInBounds_toArray, List.set_cons_zero, List.set_cons_succ])
    refine wpAnyH_take (i := 11) (v := ?_) (take_at rfl) (by kernel_rfl) (by kernel_rfl) (by kernel_rfl) (fun _ _ _ h => h) (Or.inl ⟨by rfl, ?_⟩) (by assumption) ?_
    rotate_left
    · intro w' hSw; (try dsimp only at hSw); go_simp; (try with_reducible rfl)
    (try simp only [Act.put, List.setIfInBounds_toArray, List.set_cons_zero, List.set_cons_succ])
    refine wpAnyH_take (i := 12) (v := ?_) (take_at rfl) (by kernel_rfl) (by kernel_rfl) (by kernel_rfl) (fun _ _ _ h => h) (Or.inl ⟨by rfl, ?_⟩) (by assumption) ?_
    rotate_left
    · intro w' hSw; (try dsimp only at hSw); go_simp; (try with_reducible rfl)
    (try simp only [Act.put, List.setIfInBounds_toArray, List.set_cons_zero, List.set_cons_succ])
    refine wpAnyH_take (i := 13) (v := ?_) (take_at rfl) (by kernel_rfl) (by kernel_rfl) (by kernel_rfl) (fun _ _ _ h => h) (Or.inl ⟨by rfl, ?_⟩) (by assumption) ?_
    rotate_left
    · intro w' hSw; (try dsimp only at hSw); go_simp; (try with_reducible rfl)
    (try simp only [Act.put, List.setIfInBounds_toArray, List.set_cons_zero, List.set_cons_succ])
    refine wpAnyH_take (i := 14) (v := ?_) (take_at rfl) (by kernel_rfl) (by kernel_rfl) (by kernel_rfl) (fun _ _ _ h => h) (Or.inl ⟨by rfl, ?_⟩) (by assumption) ?_
    rotate_left
    · intro w' hSw; (try dsimp only at hSw); go_simp; (try with_reducible rfl)
    (try simp only [Act.put, List.setIfInBounds_toArray, List.set_cons_zero, List.set_cons_succ])
    refine wpAnyH_take (i := 15) (v := ?_) (take_at rfl) (by kernel_rfl) (by kernel_rfl) (by kernel_rfl) (fun _ _ _ h => h) (Or.inl ⟨by rfl, ?_⟩) (by assumption) ?_
    rotate_left
    · intro w' hSw; (try dsimp only at hSw); go_simp; (try with_reducible rfl)
    (try simp only [Act.put, List.setIfInBounds_toArray, List.set_cons_zero, List.set_cons_succ])
    refine wpAnyH_take (i := 16) (v := ?_) (take_at rfl) (by kernel_rfl) (by kernel_rfl) (by kernel_rfl) (fun _ _ _ h => h) (Or.inl ⟨by rfl, ?_⟩) (by assumption) ?_
    rotate_left
    · intro w' hSw; (try dsimp only at hSw); go_simp; (try with_reducible rfl)
    (try simp only [Act.put, List.setIfInBounds_toArray, List.set_cons_zero, List.set_cons_succ])
    refine wpAnyH_take (i := 17) (v := ?_) (take_at rfl) (by kernel_rfl) (by kernel_rfl) (by kernel_rfl) (fun _ _ _ h => h) (Or.inl ⟨by rfl, ?_⟩) (by assumption) ?_
    rotate_left
    · intro w' hSw; (try dsimp only at hSw); go_simp; (try with_reducible rfl)
    (try simp only [Act.put, List.setIfInBounds_toArray, List.set_cons_zero, List.set_cons_succ])
    refine wpAnyH_take (i := 18) (v := ?_) (take_at rfl) (by kernel_rfl) (by kernel_rfl) (by kernel_rfl) (fun _ _ _ h => h) (Or.inl ⟨by rfl, ?_⟩) (by assumption) ?_
    rotate_left
    · intro w' hSw; (try dsimp only at hSw); go_simp; (try with_reducible rfl)
    (try simp only [Act.put, List.setIfInBounds_toArray, List.set_cons_zero, List.set_cons_succ])
    refine wpAnyH_ready (rs := [19]) (by kernel_rfl) (by simp) ?_
    refine AllReadyH.cons (take_at rfl) (fun K hK => ?_) AllReadyH.nil
    go_simp
    refine (OW1.out _ B.out).mono ?_
    rintro e3 v5 ⟨rfl, hb⟩
    replace B := Lib.hid (B.out.step' hb)
    clear hb
    (try go_wp2_with fail)
    refine hK.out _ _ ?_ (fun hHeld2 => ?_)
    · (try dsimp only); exact KSS.out _ B.out
    clear hK K hHeld
    have hHeld := hHeld2
    clear hHeld2
    (try simp only [Act.put, List.setIfInBounds_toArray, List.set_cons_zero, List.set_cons_succ])
    refine wpAnyH_take (i := 20) (v := ?_) (take_at rfl) (by kernel_rfl) (by kernel_rfl) (by kernel_rfl) (fun _ _ _ h => h) (Or.inl ⟨by rfl, ?_⟩) (by assumption) ?_
    rotate_left
    · intro w' hSw; (try dsimp only at hSw); go_simp; (try with_reducible rfl)
    (try simp only [Act.put, List.setIfInBounds_toArray, List.set_cons_zero, List.set_cons_succ])
    refine wpAnyH_take (i := 21) (v := ?_) (take_at rfl) (by kernel_rfl) (by kernel_rfl) (by kernel_rfl) (fun _ _ _ h => h) (Or.inl ⟨by rfl, ?_⟩) (by assumption) ?_
    rotate_left
    · intro w' hSw; (try dsimp only at hSw); go_simp; (try with_reducible rfl)
    (try simp only [Act.put, List.setIfInBounds_toArray, List.set_cons_zero, List.set_cons_succ])
    refine wpAnyH_take (i := 22) (v := ?_) (take_at rfl) (by kernel_rfl) (by kernel_rfl) (by kernel_rfl) (fun _ _ _ h => h) (Or.inl ⟨by rfl, ?_⟩) (by assumption) ?_
    rotate_left
    · intro w' hSw; (try dsimp only at hSw); go_simp; (try with_reducible rfl)
    (try simp only [Act.put, List.setIfInBounds_toArray, List.set_cons_zero, List.set_cons_succ])
    refine wpAnyH_take (i := 23) (v := ?_) (take_at rfl) (by kernel_rfl) (by kernel_rfl) (by kernel_rfl) (fun _ _ _ h => h) (Or.inl ⟨by rfl, ?_⟩) (by assumption) ?_
    rotate_left
    · intro w' hSw; (try dsimp only at hSw); go_simp; (try with_reducible rfl)
    (try simp only [Act.put, List.setIfInBounds_toArray, List.set_cons_zero, List.set_cons_succ])
    refine wpAnyH_ready (rs := [24]) (by kernel_rfl) (by simp) ?_
    refine AllReadyH.cons (take_at rfl) (fun K hK => ?_) AllReadyH.nil
    go_simp
    refine (OW0.out _ B.out).mono ?_
    rintro e3 v6 ⟨rfl, hb⟩
    replace B := Lib.hid (B.out.step' hb)
    clear hb
    (try go_wp2_with fail)
    refine hK.out _ _ ?_ (fun hHeld2 => ?_)
    · (try dsimp only); exact KSS.out _ B.out
    clear hK K hHeld
    have hHeld := hHeld2
    clear hHeld2
    (try simp only [Act.put, List.setIfInBounds_toArray, List.set_cons_zero, List.set_cons_succ])
    refine wpAnyH_take (i := 25) (v := ?_) (take_at rfl) (by kernel_rfl) (by kernel_rfl) (by kernel_rfl) (fun _ _ _ h => h) (Or.inl ⟨by rfl, ?_⟩) (by assumption) ?_
    rotate_left
    · intro w' hSw; (try dsimp only at hSw); go_simp; (try with_reducible rfl)
    (try simp only [Act.put, List.setIfInBounds_toArray, List.set_cons_zero, List.set_cons_succ])
    refine wpAnyH_take (i := 26) (v := ?_) (take_at rfl) (by kernel_rfl) (by kernel_rfl) (by kernel_rfl) (fun _ _ _ h => h) (Or.inl ⟨by rfl, ?_⟩) (by assumption) ?_
    rotate_left
    · intro w' hSw; (try dsimp only at hSw); go_simp; (try with_reducible rfl)
    (try simp only [Act.put, List.setIfInBounds_toArray, List.set_cons_zero, List.set_cons_succ])
    refine wpAnyH_take (i := 27) (v := ?_) (take_at rfl) (by kernel_rfl) (by kernel_rfl) (by kernel_rfl) (fun _ _ _ h => h) (Or.inl ⟨by rfl, ?_⟩) (by assumption) ?_
    rotate_left
    · intro w' hSw; (try dsimp only at hSw); go_simp; (try with_reducible rfl)
    (try simp only [Act.put, List.setIfInBounds_toArray, List.set_cons_zero, List.set_cons_succ])
    refine wpAnyH_take (i := 28) (v := ?_) (take_at rfl) (by kernel_rfl) (by kernel_rfl) (by kernel_rfl) (fun _ _ _ h => h) (Or.inl ⟨by rfl, ?_⟩) (by assumption) ?_
    rotate_left
    · intro w' hSw; (try dsimp only at hSw); go_simp; (try with_reducible rfl)
    (try simp only [Act.put, List.setIfInBounds_toArray, List.set_cons_zero, List.set_cons_succ])
    refine wpAnyH_ready (rs := [29]) (by kernel_rfl) (by simp) ?_
    refine AllReadyH.cons (take_at rfl) (fun K hK => ?_) AllReadyH.nil
    go_simp
    refine (CK0.out _ B.out).mono ?_
    rintro e3 v7 ⟨rfl, hb⟩
    replace B := Lib.hid (B.out.step' hb)
    clear hb
    (try go_wp2_with fail)
    refine hK.out _ _ ?_ (fun hHeld2 => ?_)
    · (try dsimp only); exact KSS.out _ B.out
    clear hK K hHeld
    have hHeld := hHeld2
    clear hHeld2
    (try simp only [Act.put, List.setIfInBounds_toArray, List.set_cons_zero, List.set_cons_succ])
    refine wpAnyH_take (i := 30) (v := ?_) (take_at rfl) (by kernel_rfl) (by kernel_rfl) (by kernel_rfl) (fun _ _ _ h => h) (Or.inl ⟨by rfl, ?_⟩) (by assumption) ?_
    rotate_left
    · intro w' hSw; (try dsimp only at hSw); go_simp; (try with_reducible rfl)
    (try simp only [Act.put, List.setIfInBounds_toArray, List.set_cons_zero, List.set_cons_succ])
    refine wpAnyH_take (i := 31) (v := ?_) (take_at rfl) (by kernel_rfl) (by kernel_rfl) (by kernel_rfl) (fun _ _ _ h => h) (Or.inl ⟨by rfl, ?_⟩) (by assumption) ?_
    rotate_left
    · intro w' hSw; (try dsimp only at hSw); go_simp; (try with_reducible rfl)
    (try simp only [Act.put, List.setIfInBounds_toArray, List.set_cons_zero, List.set_cons_succ])
    refine wpAnyH_take (i := 32) (v := ?_) (take_at rfl) (by kernel_rfl) (by kernel_rfl) (by kernel_rfl) (fun _ _ _ h => h) (Or.inl ⟨by rfl, ?_⟩) (by assumption) ?_
    rotate_left
    · intro w' hSw; (try dsimp only at hSw); go_simp; (try with_reducible rfl)
    (try simp only [Act.put, List.setIfInBounds_toArray, List.set_cons_zero, List.set_cons_succ])
    refine wpAnyH_take (i := 33) (v := ?_) (take_at rfl) (by kernel_rfl) (by kernel_rfl) (by kernel_rfl) (fun _ _ _ h => h) (Or.inl ⟨by rfl, ?_⟩) (by assumption) ?_
    rotate_left
    · intro w' hSw; (try dsimp only at hSw); go_simp; (try with_reducible rfl)
    (try simp only [Act.put, List.setIfInBounds_toArray, List.set_cons_zero, List.set_cons_succ])
    refine wpAnyH_ready (rs := [34]) (by kernel_rfl) (by simp) ?_
    refine AllReadyH.cons (take_at rfl) (fun K hK => ?_) AllReadyH.nil
    go_simp
    refine (CK1.out _ B.out).mono ?_
    rintro e3 v8 ⟨rfl, hb⟩
    replace B := Lib.hid (B.out.step' hb)
    clear hb
    (try go_wp2_with fail)
    refine hK.out _ _ ?_ (fun hHeld2 => ?_)
    · (try dsimp only); exact KSS.out _ B.out
    clear hK K hHeld
    have hHeld := hHeld2
    clear hHeld2
    (try simp only [Act.put, List.setIfInBounds_toArray, List.set_cons_zero, List.set_cons_succ])
    refine wpAnyH_take (i := 35) (v := ?_) (take_at rfl) (by kernel_rfl) (by kernel_rfl) (by kernel_rfl) (fun _ _ _ h => h) (Or.inl ⟨by rfl, ?_⟩) (by assumption) ?_
    rotate_left
    · intro w' hSw; (try dsimp only at hSw); go_simp; (try with_reducible rfl)
    (try simp only [Act.put, List.setIfInBounds_toArray, List.set_cons_zero, List.set_cons_succ])
    refine wpAnyH_take (i := 36) (v := ?_) (take_at rfl) (by kernel_rfl) (by kernel_rfl) (by kernel_rfl) (fun _ _ _ h => h) (Or.inl ⟨by rfl, ?_⟩) (by assumption) ?_
    rotate_left
    · intro w' hSw; (try dsimp only at hSw); go_simp; (try with_reducible rfl)
    (try simp only [Act.put, List.setIfInBounds_toArray, List.set_cons_zero, List.set_cons_succ])
    refine wpAnyH_take (i := 37) (v := ?_) (take_at rfl) (by kernel_rfl) (by kernel_rfl) (by kernel_rfl) (fun _ _ _ h => h) (Or.inl ⟨by rfl, ?_⟩) (by assumption) ?_
    rotate_left
    · intro w' hSw; (try dsimp only at hSw); go_simp; (try with_reducible rfl)
    (try simp only [Act.put, List.setIfInBounds_toArray, List.set_cons_zero, List.set_cons_succ])
    refine wpAnyH_take (i := 38) (v := ?_) (take_at rfl) (by kernel_rfl) (by kernel_rfl) (by kernel_rfl) (fun _ _ _ h => h) (Or.inl ⟨by rfl, ?_⟩) (by assumption) ?_
    rotate_left
    · intro w' hSw; (try dsimp only at hSw); go_simp; (try with_reducible rfl)
    (try simp only [Act.put, List.setIfInBounds_toArray, List.set_cons_zero, List.set_cons_succ])
    refine wpAnyH_ready (rs := [39]) (by kernel_rfl) (by simp) ?_
    refine AllReadyH.cons (take_at rfl) (fun K hK => ?_) AllReadyH.nil
    go_simp
    refine (doc50_any 3 v8).mono ?_
    rintro e3 v9 ⟨d1, rfl, hd, hb⟩
    have D1 := Lib.hid hd
    clear hd
    replace B := Lib.hid (B.out.step' hb)
    clear hb
    (try go_wp2_with fail)
    refine hK.out _ _ ?_ (fun hHeld2 => ?_)
    · (try dsimp only); exact KSS.out _ B.out
    clear hK K hHeld
    have hHeld := hHeld2
    clear hHeld2
    (try simp only [Act.put, List.setIfInBounds_toArray, List.set_cons_zero, List.set_cons_succ])
    refine wpAnyH_ready (rs := [40]) (by kernel_rfl) (by simp) ?_
    refine AllReadyH.cons (take_at rfl) (fun K hK => ?_) AllReadyH.nil
    go_simp
    refine (doc50_any 11 v9).mono ?_
    rintro e3 v10 ⟨d2, rfl, hd, hb⟩
    have D2 := Lib.hid hd
    replace D1 := Lib.hid (D1.out.step hb)
    clear hd
    replace B := Lib.hid (B.out.step' hb)
    clear hb
    (try go_wp2_with fail)
    refine hK.out _ _ ?_ (fun hHeld2 => ?_)
    · (try dsimp only); exact KSS.out _ B.out
    clear hK K hHeld
    have hHeld := hHeld2
    clear hHeld2
    (try simp only [Act.put, List.setIfInBounds_toArray, List.set_cons_zero, List.set_cons_succ])
    refine wpAnyH_ready (rs := [41]) (by kernel_rfl) (by simp) ?_
    refine AllReadyH.cons (take_at rfl) (fun K hK => ?_) AllReadyH.nil
    go_simp
    change K _ (v10.alloc (Obj.cells (flat recV [(cD d1, vD 3), (cD d2, vD 11)]).toArray 28))
    have G3 : Hid (Blk (v10.alloc (Obj.cells (flat recV [(cD d1, vD 3), (cD d2, vD 11)]).toArray 28)) v10.heap.size 28 (flat recV [(cD d1, vD 3), (cD d2, vD 11)]).toArray) := Blk.new_at rfl
    replace B := Lib.hid (B.out.alloc B.out.size (Obj.cells (flat recV [(cD d1, vD 3), (cD d2, vD 11)]).toArray 28))
    replace D1 := Lib.hid (D1.out.alloc (Obj.cells (flat recV [(cD d1, vD 3), (cD d2, vD 11)]).toArray 28))
    replace D2 := Lib.hid (D2.out.alloc (Obj.cells (flat recV [(cD d1, vD 3), (cD d2, vD 11)]).toArray 28))
    generalize v10.alloc (Obj.cells (flat recV [(cD d1, vD 3), (cD d2, vD 11)]).toArray 28) = v11 at *
    generalize v10.heap.size = g3 at *
    refine hK.out _ _ ?_ (fun hHeld2 => ?_)
    · (try dsimp only); exact KSS.out _ B.out
    clear hK K hHeld
    have hHeld := hHeld2
    clear hHeld2
    (try simp only [Act.put, List.setIfInBounds_toArray, List.set_cons_zero, List.set_cons_succ])
    refine wpAnyH_ready (rs := [42]) (by kernel_rfl) (by simp) ?_
    refine AllReadyH.cons (take_at rfl) (fun K hK => ?_) AllReadyH.nil
    have HON := own_any R50 (⟨some ⟨go, 0, none⟩, 1, 1, some ⟨gc, 0, none⟩, 2, 2⟩ : RA) 1 [(cD d1, vD 3), (cD d2, vD 11)] (some ⟨g3, 0, none⟩) 2 2 v11 (HT.out.step (Z9.out.step' B.out)) (RRR.out.step B.out) (slr_list G3.out rfl (by show 2 * 80 ≤ reach; decide) (by intro p hp; simp only [List.mem_cons, List.not_mem_nil, or_false] at hp; rcases hp with rfl | rfl <;> first | exact rw_d D1.out | exact rw_d D2.out)) (by decide) (by omega)
    rw [show [(cD d1, vD 3), (cD d2, vD 11)].map Prod.snd = [vD 3, vD 11] from rfl, ownl_50] at HON
    have HO := Lib.hid HON
    clear HON
    go_simp
    refine (HO.out).mono ?_
    rintro e3 v12 ⟨A9, m9, c9, qs, rfl, hq, hsl, hb⟩
    obtain rfl : m9 = 1 := by have h1 := hsl.sr.ln; have h2 := congrArg List.length hq; simp at h2; omega
    clear hq hsl
    replace B := Lib.hid (B.out.step' hb)
    clear hb
    (try go_wp2_with fail)
    refine hK.out _ _ ?_ (fun hHeld2 => ?_)
    · (try dsimp only); exact KSS.out _ B.out
    clear hK K hHeld
    have hHeld := hHeld2
    clear hHeld2
    (try simp only [Act.put, List.setIfInBounds_toArray, List.set_cons_zero, List.set_cons_succ])
    refine wpAnyH_take (i := 43) (v := ?_) (take_at rfl) (by kernel_rfl) (by kernel_rfl) (by kernel_rfl) (fun _ _ _ h => h) (Or.inl ⟨by rfl, ?_⟩) (by assumption) ?_
    rotate_left
    · intro w' hSw; (try dsimp only at hSw); go_simp; (try with_reducible rfl)
    (try simp only [Act.put, List.setIfInBounds_toArray, List.set_cons_zero, List.set_cons_succ])
    refine wpAnyH_take (i := 44) (v := ?_) (take_at rfl) (by kernel_rfl) (by kernel_rfl) (by kernel_rfl) (fun _ _ _ h => h) (Or.inl ⟨by rfl, ?_⟩) (by assumption) ?_
    rotate_left
    · intro w' hSw; (try dsimp only at hSw); go_simp; (try with_reducible rfl)
    (try simp only [Act.put, List.setIfInBounds_toArray, List.set_cons_zero, List.set_cons_succ])
    refine wpAnyH_take (i := 45) (v := ?_) (take_at rfl) (by kernel_rfl) (by kernel_rfl) (by kernel_rfl) (fun _ _ _ h => h) (Or.inl ⟨by rfl, ?_⟩) (by assumption) ?_
    rotate_left
    · intro w' hSw; (try dsimp only at hSw); go_simp; (try with_reducible rfl)
    (try simp only [Act.put, List.setIfInBounds_toArray, List.set_cons_zero, List.set_cons_succ])
    refine wpAnyH_take (i := 46) (v := ?_) (take_at rfl) (by kernel_rfl) (by kernel_rfl) (by kernel_rfl) (fun _ _ _ h => h) (Or.inl ⟨by rfl, ?_⟩) (by assumption) ?_
    rotate_left
    · intro w' hSw; (try dsimp only at hSw); go_simp; (try with_reducible rfl)
    (try simp only [Act.put, List.setIfInBounds_toArray, List.set_cons_zero, List.set_cons_succ])
    refine wpAnyH_done (by kernel_rfl) ?_ _
    refine NoPanic.normal ?_
    all_goals
      go_wp2_with fail
      go_ret
      exact ⟨rfl, Z9.out.step' B.out⟩

end Go.Proofs.YtblepmmibhphhaaGreatDoor


/- The contract of chunks.named. -/
namespace Go.Proofs.YtblepmmibhphhaaGreatDoor
open Go.RowKit

/-- a document with one field, null -/
def nullN : Val := .mk 2 0 ByteArray.empty [] []
def docN (s : ByteArray) : Val := .mk 5 0 ByteArray.empty [] [.mk s nullN]
theorem sound_docN (s : ByteArray) : SoundV nameB (docN s) ↔ nameB s = true := by
  rw [SoundV_iff]
  constructor
  · rintro ⟨_, _, _, h⟩
    exact h.1 (.mk s nullN) (by simp [docN, Val.d])
  · intro h
    refine ⟨⟨.inr (.inr (.inr rfl)), .inr (.inr (.inr rfl)), .inr rfl, .inl rfl, by right; right; right; right; right; right; right; right; right; right; rfl⟩, fun y hy => by simp [docN, Val.l] at hy, fun f hf => ?_, ⟨fun f hf => ?_, by simp [docN, Val.d]⟩⟩
    · simp [docN, Val.d] at hf
      subst hf
      show SoundV nameB nullN
      rw [SoundV_iff]
      exact ⟨⟨.inr (.inr (.inr rfl)), .inr (.inr (.inr rfl)), .inr rfl, .inr rfl, .inr (.inl rfl)⟩, fun y hy => by simp [nullN, Val.l] at hy, fun f hf => by simp [nullN, Val.d] at hf, ⟨fun f hf => by simp [nullN, Val.d] at hf, by simp [nullN, Val.d]⟩⟩
    · simp [docN, Val.d] at hf
      subst hf
      exact h
theorem validV_docN (s : ByteArray) : validV (docN s) = nameB s := by
  have h1 : (docN s).size = 2 := by simp [docN, nullN, Val.size, sizeD, sizeF]
  have h2 : (docN s).height = 2 := by simp [docN, nullN, Val.height, heightD, heightF]
  unfold validV
  rw [h1, h2]
  cases h : nameB s
  · rw [soundB_false (by rw [sound_docN, h]; simp)]
    rfl
  · rw [soundB_true ((sound_docN s).2 h)]
    rfl
theorem rw_docN {w : World} {g : Nat} {s : ByteArray} (h : Blk w g 69 #[.string s, .int .i64 2, .int .i64 0, .string ⟨#[]⟩, .slice none 0 0, .slice none 0 0]) (hs : s.size ≤ reach) :
    RW w ⟨5, 0, ⟨#[]⟩, none, 0, 0, some ⟨g, 0, none⟩, 1, 1⟩ (docN s) := by
  refine RVs.shut ⟨rfl, rfl, rfl, by show 0 ≤ reach; exact Nat.zero_le _, rfl, Nat.le_refl _, by show 0 * 80 ≤ reach; decide, fun h => absurd h (Nat.lt_irrefl 0), rfl, Nat.le_refl _, by show 1 * 96 ≤ reach; decide, fun _ => ⟨g, 0, rfl, Ft.top, fun i f hf => ?_⟩⟩
  have hi : i = 0 := by
    have := (List.getElem?_eq_some_iff.1 hf).1
    simp [docN, Val.d] at this
    exact this
  subst hi
  simp [docN, Val.d] at hf
  subst hf
  refine ⟨by rw [h.cell]; rfl, hs, ⟨2, 0, ⟨#[]⟩, none, 0, 0, none, 0, 0⟩, ⟨?_, ?_, ?_, ?_, ?_⟩, ?_⟩
  iterate 5 rw [h.cell]; rfl
  exact RVs.shut ⟨rfl, rfl, rfl, by show 0 ≤ reach; exact Nat.zero_le _, rfl, Nat.le_refl _, by show 0 * 80 ≤ reach; decide, fun h => absurd h (Nat.lt_irrefl 0), rfl, Nat.le_refl _, by show 0 * 96 ≤ reach; decide, fun h => absurd h (Nat.lt_irrefl 0)⟩
end Go.Proofs.YtblepmmibhphhaaGreatDoor


/- The contract of chunks.Valid. Printed by gen_chvalid.py. -/
namespace Go.Proofs.YtblepmmibhphhaaGreatDoor
open Go.RowKit

theorem linkB_at {l : List Ch} {j : Nat} {x y : Ch} (hx : l[j]? = some x) (hy : l[j + 1]? = some y) : linkB (l.drop j) = ((y.lo.toList == x.hi.toList) && !(Op.bytesLess y.lo.toList x.lo.toList || y.lo.toList == x.lo.toList) && linkB (l.drop (j + 1))) := by
  rw [drop_of hx, drop_of hy, linkB]

end Go.Proofs.YtblepmmibhphhaaGreatDoor

