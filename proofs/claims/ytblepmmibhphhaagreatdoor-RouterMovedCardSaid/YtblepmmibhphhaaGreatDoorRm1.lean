/- Parts of the proof, joined: RoMovedPure, RoMovedWalk, RoMovedLaw. -/
import Derived.Test.YtblepmmibhphhaaGreatDoorRo3
import Derived.Test.YtblepmmibhphhaaGreatDoorRo4
import Derived.Test.YtblepmmibhphhaaGreatDoorB18
import Derived.Test.YtblepmmibhphhaaGreatDoorB4
import Derived.Test.YtblepmmibhphhaaGreatDoorCards
import Derived.Test.YtblepmmibhphhaaGreatDoorTie
import Derived.Lib.LaidIn
import Derived.Lib.LaidU8T
import Derived.PinnedBridge
import Derived.Deep.DeepHandedRow
import Derived.Deep.DeepWitnessRowRef
import Derived.ProofKit
import Derived.SizedLaws
import Derived.OpenShut
import Derived.ShutString
import Derived.ChangeOld
import Derived.Below
import Derived.SevenTiedAt
/- What a chunk's giving does to the owners of keys. -/
namespace Go.Proofs.YtblepmmibhphhaaGreatDoor
open Go.RowKit

theorem moved_get {l : List Ch} {k : Nat} {c : Ch} {z v : Int} (hk : l[k]? = some c) (hz : c.sh ≠ z) {j : Nat} {d' : Ch} (h : (touch (repl l k 1 [⟨c.lo, c.hi, z, v, c.ju⟩]) c.sh v)[j]? = some d') :
    ∃ d, l[j]? = some d ∧ d'.lo = d.lo ∧ d'.hi = d.hi ∧ d'.sh = if j = k then z else d.sh := by
  rcases touch_get (l := repl l k 1 [⟨c.lo, c.hi, z, v, c.ju⟩]) (s := c.sh) (v := v) j with h1 | ⟨d, h1, h2, h3⟩
  · rw [h1, repl_get (getElem?_lt hk)] at h
    split at h
    · rename_i hj
      subst hj
      cases h
      exact ⟨c, hk, rfl, rfl, by rw [if_pos rfl]⟩
    · rename_i hj
      exact ⟨d', h, rfl, rfl, by rw [if_neg hj]⟩
  · rw [h3] at h
    cases h
    rw [repl_get (getElem?_lt hk)] at h1
    split at h1
    · rename_i hj
      subst hj
      cases h1
      exact absurd h2.symm hz
    · rename_i hj
      exact ⟨d, h1, rfl, rfl, by rw [if_neg hj]⟩
theorem moved_law {R : Ro} {z : Int} {k : Nat} {c : Ch} (h : VR R) (hv : R.ver ≤ 1152921504606846976) (hk : R.cs[k]? = some c) (he : (giveR R c.lo z).2 = 0) :
    (giveR R c.lo z).1.ep = R.ep ∧ verR z R.cs ≠ verR z (giveR R c.lo z).1.cs ∧ ∀ (s : Int) (key : ByteArray), ownsB (giveR R c.lo z).1 s key = ((inB key c && (s == z)) || (!(inB key c) && ownsB R s key)) := by
  rcases give_ways (z := z) (key := c.lo) h hv with ⟨h1, _⟩ | ⟨i, c', hi, hlo, h0, h8, hne, hju, hg⟩
  · exact absurd he h1
  have hik : i = k := by
    have b1 : begB c.lo c' = true := by unfold begB; rw [hlo]; exact beq_self_eq_true _
    have b2 : begB c.lo c = true := by unfold begB; exact beq_self_eq_true _
    exact h.cn.un c.lo hi hk (begB_in b1 (h.cn.lt c' (List.mem_of_getElem? hi))) (begB_in b2 (h.cn.lt c (List.mem_of_getElem? hk)))
  subst hik
  obtain rfl : c' = c := by rw [hi] at hk; exact Option.some.inj hk
  have hvr := give_ok h hi h0 h8
  have hvs := (give_vers h hi h0 h8 hne).2
  rw [hg]
  refine ⟨rfl, ?_, fun s key => ?_⟩
  · show verR z R.cs ≠ verR z (touch _ _ _)
    rw [hvs]
    have hle : verR z R.cs ≤ R.ver := by
      obtain ⟨_, a2⟩ := verR_ways z R.cs
      rcases a2 with a2 | ⟨d, hd, _, a2⟩
      · have := h.ver; omega
      · have := h.good d hd; omega
    omega
  · obtain ⟨j, d', f1, f2, f3, f4, _, _⟩ := hvr.found key
    obtain ⟨j0, d0, g1, g2, g3, g4, _, _⟩ := h.found key
    obtain ⟨d, e1, e2, e3, e4⟩ := moved_get hi hne f2
    have hd : inB key d = true := by rw [← inB_alike e2 e3]; exact f3
    obtain rfl : j = j0 := h.cn.un key e1 g2 hd g3
    obtain rfl : d = d0 := by rw [e1] at g2; exact Option.some.inj g2
    unfold ownsB
    rw [f1, g1, f4, g4, e4, decide_eq_true (by omega), Bool.true_and]
    by_cases hj : j = i
    · subst hj
      obtain rfl : d = c' := by rw [e1] at hi; exact Option.some.inj hi
      rw [if_pos rfl, g3]
      simp only [Bool.true_and, Bool.not_true, Bool.false_and, Bool.or_false]
      by_cases hs : z = s
      · subst hs; rfl
      · rw [show (z == s) = false by simpa using hs, show (s == z) = false by simpa using fun e => hs e.symm]
    · have hn : inB key c' = false := by
        cases hc : inB key c' with
        | false => rfl
        | true => exact absurd (h.cn.un key e1 hi g3 hc) hj
      rw [if_neg hj, hn]
      simp

end Go.Proofs.YtblepmmibhphhaaGreatDoor


/- The walk of RouterMoved. -/
namespace Go.Proofs.YtblepmmibhphhaaGreatDoor
open Go.RowKit
set_option linter.unusedSimpArgs false

set_option maxRecDepth 100000 in
set_option maxHeartbeats 8000000 in
theorem routerMoved_walk (R : Ro) (a : RA) (k z : Int) (key : ByteArray) (w : World) (hT : Tabs w) (h : RR w a R) :
    Calls Tryz.prog 8 #[rval a R, .int .i64 k, .int .i64 z, .string key] w fun e w' => e = .returned (.bool true) ∧ Below w.heap.size w w' := by
  have HT := Lib.hid hT
  have H := Lib.hid h
  have hF := fits_any R a [] none 0 0
  rw [show ([] : List PV).map Prod.snd = [] from rfl, fits_nil] at hF
  have HFI := Lib.hid fun (wr : World) (hb : Below w.heap.size w wr) => hF wr (h.step hb) SL.nil
  obtain ⟨KA, kn, kc, CA, cn, cc⟩ := a
  have HCN : Hid (cn = R.cs.length) := h.cs.ln
  have HCS := Lib.hid h.cs.sr
  have B0 : Hid (Blk (w.alloc (Obj.cells (rarr ⟨KA, kn, kc, CA, cn, cc⟩ R) 45)) w.heap.size 45 (rarr ⟨KA, kn, kc, CA, cn, cc⟩ R)) := Blk.new_at rfl
  have BE := Lib.hid ((Below.refl w.heap.size w).alloc (Nat.le_refl _) (Obj.cells (rarr ⟨KA, kn, kc, CA, cn, cc⟩ R) 45))
  clear hT h hF
  go_enter Tryz.func8, Tryz.ntmps8
  go_upto_region 1 with fail
  change Code.wp _ _ _ _ (w.alloc (Obj.cells (rarr ⟨KA, kn, kc, CA, cn, cc⟩ R) 45))
  generalize w.alloc (Obj.cells (rarr ⟨KA, kn, kc, CA, cn, cc⟩ R) 45) = wa at *
  obtain ⟨q0, q1, q2, q3, q4, q5, qz⟩ := blk_ro B0.out
  simp only at q1 q5
  by_cases hv : routE R = 0
  rotate_left
  · have hfd : decide (routE R = 0) = false := decide_eq_false hv
    rw [hfd] at HFI
    clear hv hfd
    go_wp2_with fail
    refine (HFI.out _ BE.out).mono ?_
    rintro e w1 ⟨rfl, hb⟩
    replace BE := Lib.hid (BE.out.step' hb)
    clear hb HFI q0 q1 q2 q3 q4 q5 qz
    go_wp2_with fail
    refine (awake50_any _ (HT.out.step BE.out)).mono ?_
    rintro e w2 ⟨rfl, hb⟩
    have CE := Lib.hid (BE.out.step' hb)
    clear hb
    go_wp2_with fail
    go_ret
    exact ⟨rfl, CE.out⟩
  have hfd : decide (routE R = 0) = true := decide_eq_true hv
  rw [hfd] at HFI
  have HVR := Lib.hid ((routE_iff R).1 hv)
  clear hv hfd
  go_wp2_with fail
  refine (HFI.out _ BE.out).mono ?_
  rintro e w1 ⟨rfl, hb⟩
  replace B0 := Lib.hid (B0.out.step hb)
  replace BE := Lib.hid (BE.out.step' hb)
  clear hb HFI q0 q1 q2 q3 q4 q5 qz
  have HAW := Lib.hid fun (wr : World) (hb : Below w.heap.size w wr) => awake50_any wr (HT.out.step hb)
  obtain ⟨q0, q1, q2, q3, q4, q5, qz⟩ := blk_ro B0.out
  simp only at q1 q5
  by_cases hver : R.ver ≤ 1152921504606846976
  rotate_left
  · have hv2 : (1152921504606846976 : Int) < R.ver := by omega
    clear hver
    go_wp2_with fail
    refine (HAW.out _ BE.out).mono ?_
    rintro e w2 ⟨rfl, hb⟩
    have CE := Lib.hid (BE.out.step' hb)
    clear hb
    go_wp2_with fail
    go_ret
    exact ⟨rfl, CE.out⟩
  by_cases hk0 : 0 ≤ k
  rotate_left
  · have hk1 : k < 0 := by omega
    clear hk0
    go_wp2_with fail
    refine (HAW.out _ BE.out).mono ?_
    rintro e w2 ⟨rfl, hb⟩
    have CE := Lib.hid (BE.out.step' hb)
    clear hb
    go_wp2_with fail
    go_ret
    exact ⟨rfl, CE.out⟩
  by_cases hkn : k < cn
  rotate_left
  · have hk1 : (cn : Int) ≤ k := by omega
    clear hkn
    go_wp2_with fail
    refine (HAW.out _ BE.out).mono ?_
    rintro e w2 ⟨rfl, hb⟩
    have CE := Lib.hid (BE.out.step' hb)
    clear hb
    go_wp2_with fail
    go_ret
    exact ⟨rfl, CE.out⟩
  obtain ⟨i, rfl⟩ : ∃ i : Nat, k = i := ⟨k.toNat, by omega⟩
  have hin : i < cn := by omega
  obtain ⟨b, off, c, hA, hbw, hc, e0, e1, e2, e3, e4⟩ := HCS.out.at5 hin
  subst hA
  have HC := Lib.hid hc
  replace e0 := (BE.out.cell (p := ⟨b, off + i * 5, none⟩) hbw).trans e0
  replace e1 := (BE.out.cell (p := ⟨b, off + i * 5 + 1, none⟩) hbw).trans e1
  replace e2 := (BE.out.cell (p := ⟨b, off + i * 5 + 2, none⟩) hbw).trans e2
  replace e3 := (BE.out.cell (p := ⟨b, off + i * 5 + 3, none⟩) hbw).trans e3
  replace e4 := (BE.out.cell (p := ⟨b, off + i * 5 + 4, none⟩) hbw).trans e4
  have HVER := Lib.hid hver
  clear hc hin hver
  go_upto_region 4 with fail
  change Code.wp _ _ _ _ (w1.alloc (Obj.cells (recC c).toArray 58))
  have C1 : Hid (Blk (w1.alloc (Obj.cells (recC c).toArray 58)) w1.heap.size 58 (recC c).toArray) := Blk.new_at rfl
  replace B0 := Lib.hid (B0.out.alloc (Obj.cells (recC c).toArray 58))
  replace BE := Lib.hid (BE.out.alloc BE.out.size (Obj.cells (recC c).toArray 58))
  generalize w1.alloc (Obj.cells (recC c).toArray 58) = w2 at *
  generalize w1.heap.size = gc at *
  clear q0 q1 q2 q3 q4 q5 qz e0 e1 e2 e3 e4
  obtain ⟨q0, q1, q2, q3, q4, q5, qz⟩ := blk_ro B0.out
  simp only at q1 q5
  have x0 := C1.out.cell 0
  have x1 := C1.out.cell 1
  simp [recC] at x0 x1
  have hgv := rgive_any R ⟨KA, kn, kc, some ⟨b, off, none⟩, cn, cc⟩ c.lo z w2 (H.out.step BE.out) (by have := HVR.out.ln; omega)
  have hml := moved_law (z := z) HVR.out HVER.out HC.out
  obtain ⟨⟨m, er⟩, hm⟩ : ∃ m, giveR R c.lo z = m := ⟨_, rfl⟩
  rw [hm] at hgv hml
  have HGV := Lib.hid hgv
  have HML := Lib.hid hml
  clear hgv hml hm
  go_wp2_with fail
  refine HGV.out.mono ?_
  rintro e w3 ⟨⟨KA', kn', kc', CA', cn', cc'⟩, rfl, hr, hb⟩
  replace B0 := Lib.hid (B0.out.step hb)
  replace C1 := Lib.hid (C1.out.step hb)
  replace BE := Lib.hid (BE.out.step' hb)
  have HM := Lib.hid hr
  clear hb hr HGV q0 q1 q2 q3 q4 q5 qz x0 x1
  go_upto_region 5 with fail
  change Code.wp _ _ _ _ (w3.alloc (Obj.cells (rarr ⟨KA', kn', kc', CA', cn', cc'⟩ m) 45))
  have M0 : Hid (Blk (w3.alloc (Obj.cells (rarr ⟨KA', kn', kc', CA', cn', cc'⟩ m) 45)) w3.heap.size 45 (rarr ⟨KA', kn', kc', CA', cn', cc'⟩ m)) := Blk.new_at rfl
  replace B0 := Lib.hid (B0.out.alloc (Obj.cells (rarr ⟨KA', kn', kc', CA', cn', cc'⟩ m) 45))
  replace C1 := Lib.hid (C1.out.alloc (Obj.cells (rarr ⟨KA', kn', kc', CA', cn', cc'⟩ m) 45))
  replace HM := Lib.hid (HM.out.alloc (Obj.cells (rarr ⟨KA', kn', kc', CA', cn', cc'⟩ m) 45))
  replace BE := Lib.hid (BE.out.alloc BE.out.size (Obj.cells (rarr ⟨KA', kn', kc', CA', cn', cc'⟩ m) 45))
  generalize w3.alloc (Obj.cells (rarr ⟨KA', kn', kc', CA', cn', cc'⟩ m) 45) = w4 at *
  generalize w3.heap.size = gm at *
  by_cases her : er = 0
  rotate_left
  · have heb : (er != 0) = true := by simpa using her
    clear her
    go_wp2_with fail
    refine (HAW.out _ BE.out).mono ?_
    rintro e w5 ⟨rfl, hb⟩
    have CE := Lib.hid (BE.out.step' hb)
    clear hb
    go_wp2_with fail
    go_ret
    exact ⟨rfl, CE.out⟩
  subst her
  have HMEP : Hid (m.ep = R.ep) := (HML.out rfl).1
  have HMV : Hid (verR z R.cs ≠ verR z m.cs) := (HML.out rfl).2.1
  have HOWN : Hid (∀ s : Int, ownsB m s key = ((inB key c && (s == z)) || (!(inB key c) && ownsB R s key))) := Lib.hid fun s => (HML.out rfl).2.2 s key
  clear HML
  obtain ⟨I, hI⟩ : ∃ I, inB key c = I := ⟨_, rfl⟩
  rw [hI] at HOWN
  have HI := Lib.hid hI
  clear hI
  go_upto_region 7 with fail
  have HX0 : Hid (w4.cell? ⟨gc, 0, none⟩ = some (.string c.lo)) := C1.out.cell 0
  have HX1 : Hid (w4.cell? ⟨gc, 1, none⟩ = some (.string c.hi)) := C1.out.cell 1
  go_cut [12] (fun v12 wx => v12 = .bool I ∧ wx = w4)
  case first =>
    have x0 := HX0.out
    have x1 := HX1.out
    cases h1 : Op.bytesLess key.toList c.lo.toList
    · cases h2 : (c.hi.toList == [])
      · have HV : Hid (I = Op.bytesLess key.toList c.hi.toList) := by rw [Hid, ← HI.out]; unfold inB; rw [h1, h2]; rfl
        go_wp2_with fail
        go_meet
        exact ⟨by rw [HV.out], rfl⟩
      · have HV : Hid (I = true) := by rw [Hid, ← HI.out]; unfold inB; rw [h1, h2]; rfl
        go_wp2_with fail
        go_meet
        exact ⟨by rw [HV.out], rfl⟩
    · have HV : Hid (I = false) := by rw [Hid, ← HI.out]; unfold inB; rw [h1]; rfl
      go_wp2_with fail
      go_meet
      exact ⟨by rw [HV.out], rfl⟩
  case rest =>
    obtain ⟨rfl, rfl⟩ := hcut
    clear HX0 HX1 C1 HI
    have HOM := Lib.hid fun (s : Int) (wr : World) (hb : Below wc.heap.size wc wr) => owns_any m ⟨KA', kn', kc', CA', cn', cc'⟩ s key wr (HM.out.step hb)
    have HOR := Lib.hid fun (s : Int) (wr : World) (hb : Below wc.heap.size wc wr) => owns_any R ⟨KA, kn, kc, some ⟨b, off, none⟩, cn, cc⟩ s key wr ((H.out.step BE.out).step hb)
    go_upto_region 9 with fail
    go_loopw [65, 13] (fun v65 _ wr => ∃ j : Nat, j ≤ 8 ∧ v65 = .int .i64 j ∧ Below wc.heap.size wc wr) (fun v65 _ _ => 8 - (intOf v65).toNat)
    case atStart => exact ⟨0, by omega, rfl, Below.refl _ _⟩
    case round =>
      obtain ⟨j, hj, rfl, hbel⟩ := hrel
      have HB := Lib.hid hbel
      have RB0 := Lib.hid (B0.out.step hbel)
      have RM0 := Lib.hid (M0.out.step hbel)
      obtain ⟨q0, q1, q2, q3, q4, q5, qz⟩ := blk_ro RB0.out
      simp only at q1 q5
      obtain ⟨p0, p1, p2, p3, p4, p5, pz⟩ := blk_ro RM0.out
      simp only at p1 p5
      clear hbel
      by_cases hlt : j < 8
      · have hj8 : (j : Int) < 8 := by omega
        have hj0 : (0 : Int) ≤ (j : Int) := by omega
        have hom := HOM.out j wr HB.out
        rw [HOWN.out] at hom
        cases I with
        | true =>
          obtain ⟨bz, hbz⟩ : ∃ bz : Bool, ((j : Int) == z) = bz := ⟨_, rfl⟩
          rw [hbz, show ((true && bz) || (!true && ownsB R (j : Int) key)) = bz by cases bz <;> rfl] at hom
          have HO1 := Lib.hid hom
          clear hom
          cases bz
          all_goals
            go_wp2_with fail
            refine HO1.out.mono ?_
            rintro e w5 ⟨rfl, hb⟩
            have HB5 := Lib.hid (HB.out.step' hb)
            clear hb q0 q1 q2 q3 q4 q5 qz p0 p1 p2 p3 p4 p5 pz HO1
            go_wp2_with fail
            go_roundw
            case rel => exact ⟨j + 1, hlt, by go_num, HB5.out⟩
            case measure => simp [intOf]; omega
        | false =>
          obtain ⟨bz, hbz⟩ : ∃ bz : Bool, ownsB R (j : Int) key = bz := ⟨_, rfl⟩
          have hor := fun (wr : World) (hb : Below wc.heap.size wc wr) => HOR.out (j : Int) wr hb
          rw [hbz] at hor
          rw [hbz, show ((false && ((j : Int) == z)) || (!false && bz)) = bz by cases bz <;> rfl] at hom
          have HO1 := Lib.hid hom
          have HO2 := Lib.hid hor
          clear hom hor hbz
          cases bz
          all_goals
            go_wp2_with fail
            refine HO1.out.mono ?_
            rintro e w5 ⟨rfl, hb⟩
            have HB5 := Lib.hid (HB.out.step' hb)
            have RB5 := Lib.hid (RB0.out.step hb)
            clear hb q0 q1 q2 q3 q4 q5 qz p0 p1 p2 p3 p4 p5 pz HO1
            obtain ⟨q0, q1, q2, q3, q4, q5, qz⟩ := blk_ro RB5.out
            simp only at q1 q5
            go_wp2_with fail
            refine (HO2.out _ HB5.out).mono ?_
            rintro e w6 ⟨rfl, hb⟩
            have HB6 := Lib.hid (HB5.out.step' hb)
            clear hb q0 q1 q2 q3 q4 q5 qz HO2
            go_wp2_with fail
            go_roundw
            case rel => exact ⟨j + 1, hlt, by go_num, HB6.out⟩
            case measure => simp [intOf]; omega
      · obtain rfl : j = 8 := by omega
        obtain ⟨V, hV⟩ : ∃ V : Int, verR z R.cs = V := ⟨_, rfl⟩
        have hRV : rverR z R.cs = V := by rw [← hV]; exact rver_eq fun c hc => (HVR.out.good c hc).2.2.1
        have hCK : chkE m (verR z m.cs) R.ep V = 27 := by
          unfold chkE
          rw [if_neg]
          rintro ⟨_, h2⟩
          exact HMV.out (hV.trans h2)
        have g0 : ∀ q : BW wr, q.val.cell? ⟨w.heap.size, 0, none⟩ = some (.string R.sp) := fun q => q.cell q0
        have g1 : ∀ q : BW wr, q.val.cell? ⟨w.heap.size, 1, none⟩ = some (.slice KA kn kc) := fun q => q.cell q1
        have g2 : ∀ q : BW wr, q.val.cell? ⟨w.heap.size, 2, none⟩ = some (.bool R.ha) := fun q => q.cell q2
        have g3 : ∀ q : BW wr, q.val.cell? ⟨w.heap.size, 3, none⟩ = some (.int .i64 R.ep) := fun q => q.cell q3
        have g4 : ∀ q : BW wr, q.val.cell? ⟨w.heap.size, 4, none⟩ = some (.int .i64 R.ver) := fun q => q.cell q4
        have g5 : ∀ q : BW wr, q.val.cell? ⟨w.heap.size, 5, none⟩ = some (.slice (some ⟨b, off, none⟩) cn cc) := fun q => q.cell q5
        have m0 : ∀ q : BW wr, q.val.cell? ⟨gm, 0, none⟩ = some (.string m.sp) := fun q => q.cell p0
        have m1 : ∀ q : BW wr, q.val.cell? ⟨gm, 1, none⟩ = some (.slice KA' kn' kc') := fun q => q.cell p1
        have m2 : ∀ q : BW wr, q.val.cell? ⟨gm, 2, none⟩ = some (.bool m.ha) := fun q => q.cell p2
        have m3 : ∀ q : BW wr, q.val.cell? ⟨gm, 3, none⟩ = some (.int .i64 m.ep) := fun q => q.cell p3
        have m4 : ∀ q : BW wr, q.val.cell? ⟨gm, 4, none⟩ = some (.int .i64 m.ver) := fun q => q.cell p4
        have m5 : ∀ q : BW wr, q.val.cell? ⟨gm, 5, none⟩ = some (.slice CA' cn' cc') := fun q => q.cell p5
        have WE := Lib.hid (BE.out.step' HB.out)
        have K3 : Hid (∀ q : BW wr, Calls Tryz.prog 31 #[.agg #[.string R.sp, .slice KA kn kc, .bool R.ha, .int .i64 R.ep, .int .i64 R.ver, .slice (some ⟨b, off, none⟩) cn cc], .int .i64 z] q.val fun e w'' => e = .returned (.int .i64 V) ∧ ∃ q : BW wr, w'' = q.val) := fun q =>
          Calls.bw (by have := rversion_any R ⟨KA, kn, kc, some ⟨b, off, none⟩, cn, cc⟩ z q.val ((H.out.step WE.out).step q.below); rw [hRV] at this; exact this)
        have K4 : Hid (∀ q : BW wr, Calls Tryz.prog 29 #[.agg #[.string m.sp, .slice KA' kn' kc', .bool m.ha, .int .i64 m.ep, .int .i64 m.ver, .slice CA' cn' cc'], .int .i64 z, .int .i64 R.ep, .int .i64 V] q.val fun e w'' => e = .returned (.int .i64 27) ∧ ∃ q : BW wr, w'' = q.val) := fun q =>
          Calls.bw (by have := check_any m ⟨KA', kn', kc', CA', cn', cc'⟩ z R.ep V q.val ((HM.out.step HB.out).step q.below); rw [hCK] at this; exact this)
        have K5 : Hid (∀ q : BW wr, Calls Tryz.prog 21 #[] q.val fun e w'' => e = .returned (.bool true) ∧ ∃ q : BW wr, w'' = q.val) := fun q =>
          Calls.bw (awake50_any q.val ((HT.out.step WE.out).step q.below))
        clear q0 q1 q2 q3 q4 q5 qz p0 p1 p2 p3 p4 p5 pz hV hRV hCK RB0 RM0
        go_upto_region 14 with fail
        refine wp_region_bw (by kernel_rfl) (by kernel_rfl) ?_
        repeat (go_big_quiet_step (first | (with_reducible exact K3.out _) | (with_reducible exact K4.out _) | (with_reducible exact K5.out _)))
        refine wpQuiet_nil ?_
        rintro _ ⟨kw, rfl⟩
        have ZE := Lib.hid (WE.out.step' kw.below)
        clear g0 g1 g2 g3 g4 g5 m0 m1 m2 m3 m4 m5 K3 K4 K5
        generalize kw.val = w5 at *
        go_wp2_with fail
        go_ret
        exact ⟨rfl, ZE.out⟩

end Go.Proofs.YtblepmmibhphhaaGreatDoor


/- The law RouterMoved returns true for every input, and each argument reads behind the call as it read before; the tables of unicode/utf8 that it reads are tied to the program's text. Conditions: none beyond the card. The frame is printed by gen_card.py. -/
namespace Go.Proofs.YtblepmmibhphhaaGreatDoor.routerMoved
open Go Go.Shelf Go.ChangeShapes Go.WideShapes Go.ChangeAt Go.RowKit Go.Lib
set_option linter.unusedVariables false

theorem own : ownKnob Tryz.prog.godebug = none := by kernel_rfl
theorem laidOut : laidOutB Tryz.prog = true := by kernel_rfl
theorem accept_eq : Rows.laid_unicode_utf8_acceptRanges = Lib.acceptData := by kernel_rfl
theorem first_eq : Rows.laid_unicode_utf8_first = Lib.firstData := Go.Pinned.utf8First_eq
noncomputable def laidWorld (os : Os) : World :=
  let w0 := World.holding Tryz.prog os ⟨#[], #[], []⟩
  let put (h : Array Obj) (g : Nat) (cs : Array Value) : Array Obj := h.modify g fun
    | .cells _ t frozen => .cells cs t frozen
    | o => o
  let h1 := put w0.heap 0 (Lib.firstTab.map fun z => Value.int .u8 z).toArray
  let h2 := put h1 1 ((List.range 16).flatMap fun i => [Value.int .u8 (Lib.accLo i), Value.int .u8 (Lib.accHi i)]).toArray
  { w0 with heap := h2 }
theorem laid_met (os : Os) (args : Array Value) : laidMet Tryz.prog Rows.routerMovedRow.laid ((laidWorld os).forCall (fun _ _ => 0) ⟨#[], args, []⟩).memory :=
  (LaidIn.of_run (l := [("unicode/utf8.acceptRanges", Rows.laid_unicode_utf8_acceptRanges), ("unicode/utf8.first", Rows.laid_unicode_utf8_first)]) [1, 0] 8 (by kernel_rfl) (by kernel_rfl) (by kernel_rfl) (by kernel_rfl)).met

theorem witness_row (os : Os) {H : Type} (enc : TypeId × Value → H) :
    (OpenSpec.ofChange Rows.routerMovedSpec).preRow enc Tryz.prog Tryz.f8 Rows.routerMovedRow.domain false Rows.routerMovedRow.laid ((laidWorld os).forCall (fun _ _ => 0) ⟨#[], #[.agg #[.string ⟨#[]⟩, .slice none 0 0, .bool false, .int .i64 0, .int .i64 0, .slice none 0 0], .int .i64 0, .int .i64 0, .string ⟨#[]⟩], []⟩).memory #[.agg #[.string ⟨#[]⟩, .slice none 0 0, .bool false, .int .i64 0, .int .i64 0, .slice none 0 0], .int .i64 0, .int .i64 0, .string ⟨#[]⟩] := by
  have hw : (DataW.whole enc Tryz.prog ((laidWorld os).forCall (fun _ _ => 0) ⟨#[], #[.agg #[.string ⟨#[]⟩, .slice none 0 0, .bool false, .int .i64 0, .int .i64 0, .slice none 0 0], .int .i64 0, .int .i64 0, .string ⟨#[]⟩], []⟩).memory Tryz.f8.params.toList (OpenSpec.ofChange Rows.routerMovedSpec).vars false (#[.agg #[.string ⟨#[]⟩, .slice none 0 0, .bool false, .int .i64 0, .int .i64 0, .slice none 0 0], .int .i64 0, .int .i64 0, .string ⟨#[]⟩] : Array Value).toList 8).map (fun x => (x.1, x.2.1)) =
      some ([.agg [.lit (.string []), .agg [.nil, .lit (.bool false)], .lit (.int .i64 0), .lit (.int .i64 0), .nil], .lit (.int .i64 0), .lit (.int .i64 0), .lit (.string [])], []) := by kernel_rfl
  obtain ⟨⟨x1, x2, x3⟩, hx, hx1⟩ := Option.map_eq_some_iff.1 hw
  simp only [Prod.mk.injEq] at hx1
  obtain ⟨rfl, rfl⟩ := hx1
  exact OpenSpec.preRow_of_cond 8 hx (by kernel_rfl) (fun k hk => by cases hk) (by kernel_rfl) (laid_met os _)

set_option maxRecDepth 100000 in
set_option maxHeartbeats 2000000 in
theorem lifted (os : Os) (started : os.Started) (H : Type) (enc : TypeId × Value → H) (F0 : Stop.Interp) :
    ReturnsInHanded {} Tryz.checked os 8 .any ((OpenSpec.ofChange Rows.routerMovedSpec).preRow enc Tryz.prog Tryz.f8 Rows.routerMovedRow.domain false Rows.routerMovedRow.laid) (((OpenSpec.ofChange Rows.routerMovedSpec).at F0).post enc Tryz.prog Tryz.f8 false true false false) := by
  refine returnsInHanded_of_row (C := Tryz.checked) (s := OpenSpec.ofChange Rows.routerMovedSpec) own started (by kernel_rfl) Tryz.func8
    (witness_row_atRef (enc := enc) (C := Tryz.checked) false (laidWorld os) #[.agg #[.string ⟨#[]⟩, .slice none 0 0, .bool false, .int .i64 0, .int .i64 0, .slice none 0 0], .int .i64 0, .int .i64 0, .string ⟨#[]⟩] rfl (by kernel_rfl) (by kernel_rfl) (by kernel_rfl) (witness_row os enc)) ?_
  intro W base args ds gs before hval0 hW hq1 hq2 hwt hL hq5 hq6
  have hval : ∀ (j : Nat) t v, Tryz.f8.params[j]? = some t → args[j]? = some v → Value.okWide Tryz.prog W .any base t v := hval0
  have hW' := hW
  obtain ⟨p, q, hA0, hV, rfl, hfz, hnd⟩ := hW
  have hA : DataW.TrodAll enc Tryz.prog W 0 (fun _ => true) true Tryz.f8.params.toList args.toList ds p := hA0
  rw [Tryz.params8] at hA hval hwt
  obtain ⟨v0, vs0, d0, ds0, p0, q0, hargs, rfl, rfl, h0, r0⟩ := trodAll_cons hA
  obtain ⟨v1, vs1, d1, ds1, p1, q1, rfl, rfl, rfl, h1, r1⟩ := trodAll_cons r0
  obtain ⟨v2, vs2, d2, ds2, p2, q2, rfl, rfl, rfl, h2, r2⟩ := trodAll_cons r1
  obtain ⟨v3, vs3, d3, ds3, p3, q3, rfl, rfl, rfl, h3, r3⟩ := trodAll_cons r2
  obtain ⟨rfl, rfl, rfl⟩ := trodAll_nil r3
  obtain rfl : args = #[v0, v1, v2, v3] := by cases args; simp_all
  obtain ⟨rfl, rfl⟩ := trodVars_none hV
  obtain ⟨hlt0, hwt0⟩ := light_each hwt
  obtain ⟨hlt1, hwt1⟩ := light_each hwt0
  obtain ⟨hlt2, hwt2⟩ := light_each hwt1
  obtain ⟨hlt3, hwt3⟩ := light_each hwt2
  have trd0 := h0
  have lt0 : ∀ x ∈ p0, x.block < W.heap.size := by obtain ⟨m, hm⟩ := trd0; exact DataW.trod_lt m _ _ _ hm
  obtain ⟨ra0, R0, rfl, o0⟩ := open_routes (hval 0 45 v0 rfl rfl) h0 hlt0
  have trd1 := h1
  have lt1 : ∀ x ∈ p1, x.block < W.heap.size := by obtain ⟨m, hm⟩ := trd1; exact DataW.trod_lt m _ _ _ hm
  obtain ⟨i1, rfl, w1⟩ := open_i64 (hval 1 3 v1 rfl rfl) h1
  have trd2 := h2
  have lt2 : ∀ x ∈ p2, x.block < W.heap.size := by obtain ⟨m, hm⟩ := trd2; exact DataW.trod_lt m _ _ _ hm
  obtain ⟨i2, rfl, w2⟩ := open_i64 (hval 2 3 v2 rfl rfl) h2
  have trd3 := h3
  have lt3 : ∀ x ∈ p3, x.block < W.heap.size := by obtain ⟨m, hm⟩ := trd3; exact DataW.trod_lt m _ _ _ hm
  obtain ⟨s3, rfl, w3⟩ := open_str (hval 3 9 v3 rfl rfl) h3 hlt3
  clear hA0 hval0
  have htab : Tabs W := by
    have r1 := Lib.laidMet.reads hL (.tail _ (.head _))
    have r2 := Lib.laidMet.reads hL (.head _)
    rw [first_eq] at r1
    rw [accept_eq] at r2
    exact utf8Tabs_of_readsT (U8Types.of196 laysValid) ⟨by kernel_rfl, by kernel_rfl, by kernel_rfl, by kernel_rfl, by kernel_rfl, by kernel_rfl, by kernel_rfl⟩ r1 r2
  refine (routerMoved_walk R0 ra0 i1 i2 s3 W htab o0).mono fun e W' ⟨he, bel⟩ => ?_
  subst he
  exact ⟨_, rfl, _, _, _, [], _, [], hW', trodAll_mk1 (shut_bool Tryz.underlying4 _), (trodAll_cons_mk (Below.trod laidOut (by kernel_rfl) (of_decide_eq_true (by kernel_rfl)) trd0 bel lt0) (trodAll_cons_mk (Below.trod laidOut (by kernel_rfl) (of_decide_eq_true (by kernel_rfl)) trd1 bel lt1) (trodAll_cons_mk (Below.trod laidOut (by kernel_rfl) (of_decide_eq_true (by kernel_rfl)) trd2 bel lt2) (trodAll_cons_mk (Below.trod laidOut (by kernel_rfl) (of_decide_eq_true (by kernel_rfl)) trd3 bel lt3) trodAll_mk0)))), rfl, bel.frame _, fun h => by cases h⟩

theorem over : Rows.RouterMovedSaid :=
  OpenClaim.holds_of_cond 8 Tryz.f8 rfl rfl rfl rfl rfl rfl rfl ⟨rfl, rfl, rfl, rfl, rfl⟩ rfl rfl rfl rfl rfl (by kernel_rfl) Tryz.func8 (by kernel_rfl)
    (of_decide_eq_true (by kernel_rfl)) (by unfold Func.isWrapper; first | (rw [if_pos (by decide +kernel)]; kernel_rfl) | (rw [if_neg (by decide +kernel)]; exact ⟨rfl, rfl⟩))
    (fun os started H enc _ F0 => by rw [OpenClaim.pre_eq_preRow]; exact lifted os started H enc F0)

theorem proved : Rows.RouterMovedCardSaid :=
  Claim7.holds_tied_plain_at .later [] [.data, .pinned] true (true, "d760985c22148e55cd1a8abc7402baa4a725f89cf5395fb4c61866adb12a1757") false
    over (fun _ h => by cases h) (by kernel_rfl) (fun _ h => by cases h) routerMoved_row_tie rfl ⟨rfl, rfl⟩ (by kernel_rfl) rfl
    (fun f fn hf hfn => by
      obtain rfl : f = 8 := Option.some.inj ((show Tryz.prog.funcNamed "docstore/docstorelaw50.RouterMoved" = some 8 by kernel_rfl).symm.trans hf) |>.symm
      obtain rfl : fn = Tryz.f8 := (Option.some.inj (Tryz.func8.symm.trans hfn)).symm
      exact ⟨by kernel_rfl, fun j t ht => by
        rw [Tryz.params8] at ht
        have h3 : t = 45 ∨ t = 3 ∨ t = 3 ∨ t = 9 := by
          rcases j with _ | j
          · exact .inl (by simpa using ht.symm)
          rcases j with _ | j
          · exact .inr (.inl (by simpa using ht.symm))
          rcases j with _ | j
          · exact .inr (.inr (.inl (by simpa using ht.symm)))
          rcases j with _ | j
          · exact .inr (.inr (.inr (by simpa using ht.symm)))
          · simp at ht
        rcases h3 with rfl | rfl | rfl | rfl
        · exact (show Tryz.prog.wantsStandIn 45 = false by kernel_rfl)
        · exact (show Tryz.prog.wantsStandIn 3 = false by kernel_rfl)
        · exact (show Tryz.prog.wantsStandIn 3 = false by kernel_rfl)
        · exact (show Tryz.prog.wantsStandIn 9 = false by kernel_rfl)⟩)
    (by kernel_rfl)
#print axioms proved
end Go.Proofs.YtblepmmibhphhaaGreatDoor.routerMoved
