/- Parts of the proof, joined: RoOwn, RoOnePure, RoInts, RoSort, RoSmall, RoTargets, RoAwPure, RoAwake, ChNamed, ChValid, ChRefValid, RoFits. -/
import Derived.Test.YtblepmmibhphhaaGreatDoorRn20
import Derived.Test.YtblepmmibhphhaaGreatDoorRn1
import Derived.Test.YtblepmmibhphhaaGreatDoorRn10
import Derived.Test.YtblepmmibhphhaaGreatDoorRn13
import Derived.Test.YtblepmmibhphhaaGreatDoorRn19
import Derived.Test.YtblepmmibhphhaaGreatDoorRn18
import Derived.Test.YtblepmmibhphhaaGreatDoorRn5
import Derived.Test.YtblepmmibhphhaaGreatDoorRn11
import Derived.Deep.RegionHeld3
/- The contract of router.Own. -/
namespace Go.Proofs.YtblepmmibhphhaaGreatDoor
open Go.RowKit

/-- a document is owned -/
noncomputable def ownP (R : Ro) (s : Int) (x : Val) : Bool := decide ((encR R.ks R.ha x).2 = 0) && ownsB R s (encR R.ks R.ha x).1
noncomputable def ownL (R : Ro) (s : Int) (l : List Val) : List Val := l.filter (ownP R s)
theorem ownL_at {R : Ro} {s : Int} {l : List Val} {i : Nat} {x : Val} (h : l[i]? = some x) : ownL R s (l.drop i) = (if ownP R s x then [x] else []) ++ ownL R s (l.drop (i + 1)) := by
  rw [drop_of h]
  unfold ownL
  rw [List.filter_cons]
  split <;> rfl
/-- values are handed back -/
def OwnOk (l : List Val) (w : World) (e : Ending) (w' : World) : Prop :=
  ∃ (A : Option Addr) (m c : Nat) (qs : List PV), e = .returned (.slice A m c) ∧ qs.map Prod.snd = l ∧ SL (fun _ => True) w' A m c qs ∧ Below w.heap.size w w'
/-- the loop of Own -/
structure OwJ (w : World) (k : Array Value) (v : Value) (qs : List PV) (wr : World) : Prop where
  b0 : Blk wr w.heap.size 45 k
  sz : w.heap.size + 1 ≤ wr.heap.size
  vs : VsI w v qs wr
  ne : v.ownBlock ≠ some w.heap.size
theorem OwJ.step {w wr w' : World} {k : Array Value} {v : Value} {qs : List PV} (h : OwJ w k v qs wr) (hb : Below wr.heap.size wr w') : OwJ w k v qs w' := ⟨h.b0.step hb, Nat.le_trans h.sz hb.size, h.vs.step hb, h.ne⟩
theorem OwJ.add {w wr w' : World} {k : Array Value} {v v' : Value} {qs : List PV} {p : PV} {m : Nat} (h : OwJ w k v qs wr) (hp : RV (fun b => v.ownBlock ≠ some b) wr p.1 p.2) (hm : m = qs.length + 1)
    (ho : w'.ownsRow w.heap.size 28 5 v' m (flat recV qs ++ recV p)) (hg : wr.grownBy w' v.ownBlock) (hat : v'.ownBlock = v.ownBlock ∨ v'.ownBlock = some wr.heap.size) : OwJ w k v' (qs ++ [p]) w' := by
  have hs := h.sz
  refine ⟨h.b0.grown hg (fun e => h.ne e.symm), Nat.le_trans h.sz hg.size, h.vs.add hp hm ho hg hat, ?_⟩
  rcases hat with e | e <;> rw [e]
  · exact h.ne
  · exact fun e => (by injection e; omega)

set_option maxRecDepth 100000 in
set_option maxHeartbeats 4000000 in
theorem own_any (R : Ro) (a : RA) (s : Int) (ps : List PV) (A : Option Addr) (n cc : Nat) (w : World) (hT : Tabs w) (h : RR w a R) (hp : SL (fun _ => True) w A n cc ps) (h8 : R.ks.length ≤ 8) (hn : n ≤ 1000) :
    Calls Tryz.prog 27 #[rval a R, .int .i64 s, .slice A n cc] w (OwnOk (ownL R s (ps.map Prod.snd)) w) := by
  obtain ⟨i0, hi0, hy0, hy1, hy2⟩ := info_parts info_value
  have HOW := Lib.hid fun (key : ByteArray) (wr : World) (hb : Below w.heap.size w wr) => owns_any R a s key wr (h.step hb)
  have HT := Lib.hid hT
  obtain ⟨KA, kn, kc, CA, cn, c1⟩ := a
  have HKS : Hid (KS w KA kn kc R.ks) := h.ks
  have HPS := Lib.hid hp
  have HN := Lib.hid hp.sr.ln
  have I0 : Hid (OwJ w (rarr ⟨KA, kn, kc, CA, cn, c1⟩ R) (.slice none 0 0) [] (w.alloc (Obj.cells (rarr ⟨KA, kn, kc, CA, cn, c1⟩ R) 45))) :=
    ⟨Blk.new_at rfl, by simp, ⟨own_nil _ _ _ _, fun p hp => by simp at hp, (Below.refl _ _).alloc (Nat.le_refl _) _⟩, by simp [Value.ownBlock]⟩
  clear h hp hT
  go_enter Tryz.func27, Tryz.ntmps27
  go_upto_region 3 with fail
  change Code.wp _ _ _ _ (w.alloc (Obj.cells (rarr ⟨KA, kn, kc, CA, cn, c1⟩ R) 45))
  generalize w.alloc (Obj.cells (rarr ⟨KA, kn, kc, CA, cn, c1⟩ R) 45) = wa at *
  go_loopw [7, 9, 10, 11, 14] (fun u7 _ _ _ u14 wr => ∃ (i : Nat) (qs : List PV), i ≤ n ∧ qs.length ≤ i ∧ u14 = .int .i64 i ∧ ownL R s (ps.map Prod.snd) = qs.map Prod.snd ++ ownL R s ((ps.map Prod.snd).drop i) ∧ OwJ w (rarr ⟨KA, kn, kc, CA, cn, c1⟩ R) u7 qs wr) (fun _ _ _ _ u14 _ => n - (intOf u14).toNat)
  case atStart => exact ⟨0, [], Nat.zero_le _, Nat.le_refl _, rfl, rfl, I0.out⟩
  case round =>
    obtain ⟨i, qs, hi, hql, rfl, hall, J⟩ := hrel
    have HQL := Lib.hid hql
    have HA := Lib.hid hall
    have J2 := Lib.hid J
    clear hql hall J I0
    by_cases hlt : i < n
    · obtain ⟨p, hp⟩ : ∃ p, ps[i]? = some p := ⟨_, List.getElem?_eq_getElem (by have := HN.out; omega)⟩
      obtain ⟨b, off, hA, _, hat, hrv⟩ := HPS.out.vat hp
      subst hA
      have HPL : Hid ((ps.map Prod.snd)[i]? = some p.2) := by unfold Hid; rw [List.getElem?_map, hp]; rfl
      obtain ⟨q0, q1, q2, q3, q4⟩ := hat.keep (J2.out.vs.bel.block b hat.lt)
      have HRV := Lib.hid hrv
      have hbw : b < wr.heap.size := World.block_lt_of_cell? wr _ q0
      have i0' : (0 : Int) ≤ (i : Int) := by omega
      have i1' : (i : Int) < (n : Int) := by omega
      clear hp hat hrv
      go_upto_region 5 with fail
      change Code.wp _ _ _ _ (wr.alloc (Obj.cells p.1.arr 28))
      have JB : Hid (Blk (wr.alloc (Obj.cells p.1.arr 28)) wr.heap.size 28 p.1.arr) := Blk.new_at rfl
      have J3 := Lib.hid (J2.out.step ((Below.refl wr.heap.size wr).alloc (Nat.le_refl _) (Obj.cells p.1.arr 28)))
      generalize wr.alloc (Obj.cells p.1.arr 28) = wb at *
      generalize wr.heap.size = ga at *
      clear q0 q1 q2 q3 q4 J2 hbw
      obtain ⟨a0, a1, a2, a3, a4⟩ := VAt.of_blk JB.out
      simp only [Nat.zero_add] at a0 a1 a2 a3 a4
      obtain ⟨q0, q1, q2, q3, q4, q5, qz⟩ := blk_ro J3.out.b0
      simp only at q1 q5
      obtain ⟨⟨K1, K2⟩, hK⟩ : ∃ K, encR R.ks R.ha p.2 = K := ⟨_, rfl⟩
      have hE := senc_any R.ks R.ha KA kn kc p.2 p.1 wb (HT.out.step J3.out.vs.bel) (HKS.out.step J3.out.vs.bel) (HRV.out.step J3.out.vs.bel) h8
      rw [hK] at hE
      have HE := Lib.hid hE
      have HK := Lib.hid hK
      clear hE hK
      go_wp2_with fail
      refine HE.out.mono ?_
      rintro e w1 ⟨rfl, hb⟩
      have J4 := Lib.hid (J3.out.step hb)
      have JB4 := Lib.hid (JB.out.step hb)
      clear hb HE J3 JB a0 a1 a2 a3 a4 q0 q1 q2 q3 q4 q5 qz
      by_cases hk : K2 = 0
      rotate_left
      · have hkb : (K2 == 0) = false := by simpa using hk
        have HF : Hid (ownL R s (ps.map Prod.snd) = qs.map Prod.snd ++ ownL R s ((ps.map Prod.snd).drop (i + 1))) := by
          have : ownP R s p.2 = false := by unfold ownP; rw [HK.out, decide_eq_false hk]; rfl
          unfold Hid
          rw [HA.out, ownL_at HPL.out, this]
          rfl
        clear hk
        go_wp2_with fail
        go_roundw
        case rel => exact ⟨i + 1, qs, hlt, by have := HQL.out; omega, by go_num, HF.out, J4.out⟩
        case measure => simp [intOf]; omega
      subst hk
      obtain ⟨q0, q1, q2, q3, q4, q5, qz⟩ := blk_ro J4.out.b0
      simp only at q1 q5
      have HO1 := Lib.hid (HOW.out K1 w1 J4.out.vs.bel)
      cases ho : ownsB R s K1
      · have HF : Hid (ownL R s (ps.map Prod.snd) = qs.map Prod.snd ++ ownL R s ((ps.map Prod.snd).drop (i + 1))) := by
          have : ownP R s p.2 = false := by unfold ownP; rw [HK.out, ho, Bool.and_false]
          unfold Hid
          rw [HA.out, ownL_at HPL.out, this]
          rfl
        rw [ho] at HO1
        clear ho
        go_wp2_with fail
        refine HO1.out.mono ?_
        rintro e w2 ⟨rfl, hb⟩
        have J5 := Lib.hid (J4.out.step hb)
        clear hb HO1 J4 JB4 q0 q1 q2 q3 q4 q5 qz
        go_wp2_with fail
        go_roundw
        case rel => exact ⟨i + 1, qs, hlt, by have := HQL.out; omega, by go_num, HF.out, J5.out⟩
        case measure => simp [intOf]; omega
      · have HF : Hid (ownL R s (ps.map Prod.snd) = (qs.map Prod.snd ++ [p.2]) ++ ownL R s ((ps.map Prod.snd).drop (i + 1))) := by
          have : ownP R s p.2 = true := by unfold ownP; rw [HK.out, ho]; rfl
          unfold Hid
          rw [HA.out, ownL_at HPL.out, this]
          simp
        rw [ho] at HO1
        clear ho
        go_wp2_with fail
        refine HO1.out.mono ?_
        rintro e w2 ⟨rfl, hb⟩
        have J5 := Lib.hid (J4.out.step hb)
        have JB5 := Lib.hid (JB4.out.step hb)
        clear hb HO1 J4 JB4 q0 q1 q2 q3 q4 q5 qz
        obtain ⟨a0, a1, a2, a3, a4⟩ := VAt.of_blk JB5.out
        simp only [Nat.zero_add] at a0 a1 a2 a3 a4
        have HC := Lib.hid (vcopied_any p.2 p.1 w2 (HRV.out.step J5.out.vs.bel))
        go_wp2_with fail
        refine HC.out.mono ?_
        rintro e w3 ⟨c9, rfl, hr, hb⟩
        have hlo : w.heap.size ≤ w3.heap.size := (J5.out.step hb).vs.bel.size
        have hqi : qs.length ≤ 1000 := by have := HQL.out; omega
        have LK := Lib.hid ((J5.out.step hb).step ((Below.refl w3.heap.size w3).alloc (Nat.le_refl _) (Obj.cells c9.arr 28)))
        have HRZ : Hid (RV (fun b => Value.ownBlock u7 ≠ some b) (w3.alloc (Obj.cells c9.arr 28)) c9 p.2) := (hr.alloc _).mono fun b hb' => J5.out.vs.far (.inr hb')
        clear hb hr HC a0 a1 a2 a3 a4 J5 JB5
        go_wp2_with (at_builtin; refine wpList_append_any _ rfl _ _ 25 rfl w.heap.size 28 i0 VC.zero.val 5 80 Tryz.underlying25 hi0 hy0 hy1 hy2 rfl (by decide) u7 qs.length (flat recV qs) rfl LK.out.vs.own _ _ 1 _ (recV (c9, p.2)) rfl ⟨rfl, fun _ => ⟨_, rfl, Nat.lt_succ_self _, news_at _ _ _⟩⟩ (recV_one _) (by unfold maxLen; omega) (by omega) (alloc_le hlo _) ?_)
        intro v' w6 hown hgr hat
        have HI := Lib.hid (LK.out.add (p := (c9, p.2)) HRZ.out rfl hown hgr (by rw [size_alloc]; exact hat))
        clear hown hgr hat LK HRZ
        go_wp2_with fail
        go_roundw
        case rel => exact ⟨i + 1, qs ++ [(c9, p.2)], hlt, by rw [List.length_append]; have := HQL.out; simp; omega, by go_num, by rw [HF.out]; simp, HI.out⟩
        case measure => simp [intOf]; omega
    · obtain rfl : i = n := by omega
      have HF : Hid (ownL R s (ps.map Prod.snd) = qs.map Prod.snd) := by
        unfold Hid
        rw [HA.out, List.drop_of_length_le (by rw [List.length_map]; have := HN.out; omega)]
        simp [ownL]
      obtain ⟨A1, c2, hu, hsl⟩ := J2.out.vs.sl (by have := HQL.out; omega)
      have HSL := Lib.hid hsl
      subst hu
      clear hsl
      go_wp2_with fail
      go_ret
      exact ⟨A1, qs.length, c2, qs, rfl, HF.out.symm, HSL.out, J2.out.vs.bel⟩

end Go.Proofs.YtblepmmibhphhaaGreatDoor


/- Every key and every document with a key has one owner. -/
namespace Go.Proofs.YtblepmmibhphhaaGreatDoor
open Go.RowKit

noncomputable def okD (R : Ro) (x : Val) : Bool := decide ((encR R.ks R.ha x).2 = 0)
noncomputable def cntB (R : Ro) (L : List Val) (i : Int) : Nat := (L.filter (fun x => okD R x && decide (ownC R (encR R.ks R.ha x).1 < i))).length
theorem VR.ownsEq {R : Ro} (h : VR R) (s : Int) (key : ByteArray) : ownsB R s key = (ownC R key == s) := by
  obtain ⟨i, c, h1, _⟩ := h.found key
  unfold ownsB
  rw [h1, decide_eq_true (by omega), Bool.true_and]
theorem cnt_step {R : Ro} (h : VR R) (L : List Val) (i : Int) : cntB R L (i + 1) = cntB R L i + (ownL R i L).length := by
  unfold cntB ownL
  induction L with
  | nil => rfl
  | cons x L ih =>
    rw [List.filter_cons, List.filter_cons, List.filter_cons]
    have e : ownP R i x = (okD R x && (ownC R (encR R.ks R.ha x).1 == i)) := by
      unfold ownP okD
      rw [h.ownsEq]
    rw [e]
    cases okD R x
    · simpa using ih
    · simp only [Bool.true_and]
      by_cases h1 : ownC R (encR R.ks R.ha x).1 < i
      · have h2 : (ownC R (encR R.ks R.ha x).1 == i) = false := by simp; omega
        rw [decide_eq_true h1, decide_eq_true (by omega), h2]
        simp only [if_true, List.length_cons, Bool.false_eq_true, if_false]
        omega
      · by_cases h3 : ownC R (encR R.ks R.ha x).1 = i
        · have h2 : (ownC R (encR R.ks R.ha x).1 == i) = true := by simpa using h3
          rw [decide_eq_false h1, decide_eq_true (by omega), h2]
          simp only [if_true, List.length_cons, Bool.false_eq_true, if_false]
          omega
        · have h2 : (ownC R (encR R.ks R.ha x).1 == i) = false := by simpa using h3
          rw [decide_eq_false h1, decide_eq_false (by omega), h2]
          simpa using ih
theorem cnt_zero {R : Ro} (h : VR R) (L : List Val) : cntB R L 0 = 0 := by
  unfold cntB
  rw [List.length_eq_zero_iff, List.filter_eq_nil_iff]
  intro x _ hx
  obtain ⟨_, c, _, _, _, h4, h5, _⟩ := h.found (encR R.ks R.ha x).1
  simp only [Bool.and_eq_true, decide_eq_true_eq] at hx
  omega
theorem cnt_all {R : Ro} (h : VR R) (L : List Val) : cntB R L 8 = (L.filter (okD R)).length := by
  unfold cntB
  congr 2
  funext x
  obtain ⟨_, c, _, _, _, h4, _, h6⟩ := h.found (encR R.ks R.ha x).1
  rw [decide_eq_true (by omega), Bool.and_true]
theorem cnt_le (R : Ro) (L : List Val) (i : Int) : cntB R L i ≤ L.length := List.length_filter_le _ _
theorem own_route {R : Ro} (h : VR R) {s : Int} {L : List Val} {x : Val} (hx : x ∈ ownL R s L) : rouR R x = (s, 0) := by
  unfold ownL at hx
  have h1 := (List.mem_filter.1 hx).2
  unfold ownP at h1
  rw [h.ownsEq] at h1
  simp only [Bool.and_eq_true, decide_eq_true_eq, beq_iff_eq] at h1
  obtain ⟨i, c, h2, _⟩ := h.found (encR R.ks R.ha x).1
  unfold rouR
  rw [if_pos h1.1, h2, if_neg (by omega), h1.2]
def nB (R : Ro) (key : ByteArray) (i : Int) : Nat := if ownC R key < i then 1 else 0
theorem n_step {R : Ro} (h : VR R) (key : ByteArray) (i : Int) : nB R key (i + 1) = nB R key i + (if ownsB R i key then 1 else 0) := by
  rw [h.ownsEq]
  unfold nB
  by_cases h1 : ownC R key < i
  · have h2 : (ownC R key == i) = false := by simp; omega
    rw [if_pos h1, if_pos (by omega), h2]
    rfl
  · by_cases h3 : ownC R key = i
    · have h2 : (ownC R key == i) = true := by simpa using h3
      rw [if_neg h1, if_pos (by omega), h2]
      rfl
    · have h2 : (ownC R key == i) = false := by simpa using h3
      rw [if_neg h1, if_neg (by omega), h2]
      rfl
theorem n_zero {R : Ro} (h : VR R) (key : ByteArray) : nB R key 0 = 0 := by
  obtain ⟨_, c, _, _, _, h4, h5, _⟩ := h.found key
  unfold nB
  rw [if_neg (by omega)]
theorem n_all {R : Ro} (h : VR R) (key : ByteArray) : nB R key 8 = 1 := by
  obtain ⟨_, c, _, _, _, h4, _, h6⟩ := h.found key
  unfold nB
  rw [if_pos (by omega)]
theorem okD_at {R : Ro} {l : List Val} {i : Nat} {x : Val} (h : l[i]? = some x) : ((l.drop i).filter (okD R)).length = (if okD R x then 1 else 0) + ((l.drop (i + 1)).filter (okD R)).length := by
  rw [drop_of h, List.filter_cons]
  split <;> simp <;> omega

end Go.Proofs.YtblepmmibhphhaaGreatDoor


/- Sorting, compacting and comparing lists of one or two ascending numbers. -/
namespace Go.Proofs.YtblepmmibhphhaaGreatDoor
open Go.RowKit

def recN (z : Int) : List Value := [.int .i64 z]
theorem recN_length (z : Int) : (recN z).length = 1 := rfl
theorem recN_one (z : Int) : ∀ u ∈ recN z, u.oneCell' = true := by simp [recN, Value.oneCell']
theorem info_int : (Tryz.prog.info? 3).map (fun i => (i.zero, i.size, i.bytes)) = some (some (.int .i64 0), 1, 8) := by kernel_rfl
theorem SR.atN {w : World} {A : Option Addr} {n c : Nat} {l : List Int} (h : SR 1 recN w A n c l) {i : Nat} (hi : i < n) : ∃ b off x, A = some ⟨b, off, none⟩ ∧ b < w.heap.size ∧ l[i]? = some x ∧ w.cell? ⟨b, off + i, none⟩ = some (.int .i64 x) := by
  obtain ⟨b, off, e, hb, hc⟩ := h.el (by omega)
  have hl : i < l.length := by have := h.ln; omega
  have h1 := List.getElem?_eq_getElem hl
  exact ⟨b, off, l[i], e, hb, h1, by simpa using hc i _ h1 0 _ rfl⟩

set_option maxRecDepth 100000 in
set_option maxHeartbeats 1000000 in
/-- equal lists of numbers are equal -/
theorem equalN_any (l : List Int) (A B : Option Addr) (n c d : Nat) (w : World) (h : SR 1 recN w A n c l) (h' : SR 1 recN w B n d l) (hn : n ≤ 100) :
    Calls Tryz.prog 57 #[.slice A n c, .slice B n d] w fun e w' => e = .returned (.bool true) ∧ Below w.heap.size w w' := by
  have H := Lib.hid h
  have H' := Lib.hid h'
  clear h h'
  go_enter Tryz.func57, Tryz.ntmps57
  go_upto_region 4 with fail
  go_loopw [5, 13] (fun _ v wr => ∃ i : Nat, i ≤ n ∧ v = .int .i64 i ∧ Below w.heap.size w wr) (fun _ v _ => n - (intOf v).toNat)
  case atStart => exact ⟨0, Nat.zero_le _, rfl, Below.refl _ _⟩
  case round =>
    obtain ⟨i, hi, rfl, hbel⟩ := hrel
    have HB := Lib.hid hbel
    by_cases hlt : i < n
    · obtain ⟨b, off, x, rfl, hb, hx, e0⟩ := H.out.atN hlt
      obtain ⟨b', off', y, rfl, hb', hy, e1⟩ := H'.out.atN hlt
      obtain rfl : x = y := Option.some.inj (hx.symm.trans hy)
      have g0 : ∀ q : BW wr, q.val.cell? ⟨b, off + i, none⟩ = some (.int .i64 x) := fun q => q.cell ((hbel.cell (p := ⟨b, off + i, none⟩) hb).trans e0)
      have g1 : ∀ q : BW wr, q.val.cell? ⟨b', off' + i, none⟩ = some (.int .i64 x) := fun q => q.cell ((hbel.cell (p := ⟨b', off' + i, none⟩) hb').trans e1)
      have i0' : (0 : Int) ≤ (i : Int) := by omega
      have i1' : (i : Int) < (n : Int) := by omega
      have xx : (x != x) = false := by simp
      clear hx hy e0 e1 hbel
      go_upto_region 6 with fail
      refine wp_region_bw (by kernel_rfl) (by kernel_rfl) ?_
      repeat (go_big_quiet_step (fail))
      refine wpQuiet_nil ?_
      rintro _ ⟨kw, rfl⟩
      have CE := Lib.hid (HB.out.step' kw.below)
      clear g0 g1 HB
      generalize kw.val = w3 at *
      go_wp2_with fail
      go_roundw
      case rel => exact ⟨i + 1, hlt, by go_num, CE.out⟩
      case measure => simp [intOf]; omega
    · obtain rfl : i = n := by omega
      clear hbel
      go_wp2_with fail
      go_ret
      exact ⟨rfl, HB.out⟩

set_option maxRecDepth 100000 in
set_option maxHeartbeats 1000000 in
theorem isortN1_any (A : Option Addr) (c : Nat) (w : World) :
    Calls Tryz.prog 147 #[.slice A 1 c, .int .i64 0, .int .i64 1] w fun e w' => e = .returned (.tuple #[]) ∧ Below w.heap.size w w' := by
  go_enter Tryz.func147, Tryz.ntmps147
  go_wp2_with fail
  go_loopw [6, 7] (fun v8 _ wr => v8 = .int .i64 1 ∧ wr = w) (fun _ _ _ => 0)
  case atStart => exact ⟨rfl, rfl⟩
  case round =>
    obtain ⟨rfl, rfl⟩ := hrel
    go_wp2_with fail
    go_end0
    exact ⟨rfl, Below.refl _ _⟩
set_option maxRecDepth 100000 in
set_option maxHeartbeats 1000000 in
theorem nan_any (x : Int) (w : World) : Calls Tryz.prog 164 #[.int .i64 x] w fun e w' => e = .returned (.bool false) ∧ Below w.heap.size w w' := by
  have xx : (x != x) = false := by simp
  go_enter Tryz.func164, Tryz.ntmps164
  go_wp2_with fail
  go_ret
  exact ⟨rfl, Below.refl _ _⟩
set_option maxRecDepth 100000 in
set_option maxHeartbeats 1000000 in
theorem less_no (x y : Int) (w : World) (h : ¬ x < y) : Calls Tryz.prog 153 #[.int .i64 x, .int .i64 y] w fun e w' => e = .returned (.bool false) ∧ Below w.heap.size w w' := by
  have HF : Hid (decide (x < y) = false) := decide_eq_false h
  clear h
  go_enter Tryz.func153, Tryz.ntmps153
  go_wp2_with fail
  refine (nan_any x _).mono ?_
  rintro e w1 ⟨rfl, hb⟩
  have CE := Lib.hid hb
  clear hb
  go_wp2_with fail
  go_ret
  refine ⟨?_, CE.out⟩
  show _ = Ending.returned (Value.bool false)
  rw [← HF.out]
  rfl
set_option maxRecDepth 100000 in
set_option maxHeartbeats 4000000 in
theorem isortN2_any (x y : Int) (A : Option Addr) (c : Nat) (w : World) (h : SR 1 recN w A 2 c [x, y]) (hxy : x < y) :
    Calls Tryz.prog 147 #[.slice A 2 c, .int .i64 0, .int .i64 2] w fun e w' => e = .returned (.tuple #[]) ∧ Below w.heap.size w w' := by
  obtain ⟨b, off, z, rfl, hb, hz, e0⟩ := h.atN (i := 0) (by omega)
  obtain rfl : x = z := by simpa using hz
  obtain ⟨b', off', z', he, hb', hz', e1⟩ := h.atN (i := 1) (by omega)
  cases he
  obtain rfl : y = z' := by simpa using hz'
  have HL := Lib.hid fun (wr : World) => less_no y x wr (by omega)
  rw [Nat.add_zero] at e0
  clear hz hz' h hxy
  go_enter Tryz.func147, Tryz.ntmps147
  go_wp2_with fail
  go_loopw [6, 7] (fun v6 _ wr => ∃ i : Nat, 1 ≤ i ∧ i ≤ 2 ∧ v6 = .int .i64 i ∧ Below w.heap.size w wr) (fun v6 _ _ => 2 - (intOf v6).toNat)
  case atStart => exact ⟨1, by omega, by omega, rfl, Below.refl _ _⟩
  case round =>
    obtain ⟨i, h1, h2, rfl, hbel⟩ := hrel
    have HB := Lib.hid hbel
    by_cases hi : i = 1
    · subst hi
      have g0 : ∀ q : BW wr, q.val.cell? ⟨b, off, none⟩ = some (.int .i64 x) := fun q => q.cell ((hbel.cell (p := ⟨b, off, none⟩) hb).trans e0)
      have g1 : ∀ q : BW wr, q.val.cell? ⟨b, off + 1, none⟩ = some (.int .i64 y) := fun q => q.cell ((hbel.cell (p := ⟨b, off + 1, none⟩) hb).trans e1)
      have K1 : Hid (∀ q : BW wr, Calls Tryz.prog 153 #[.int .i64 y, .int .i64 x] q.val fun e w'' => e = .returned (.bool false) ∧ ∃ q : BW wr, w'' = q.val) := fun q => Calls.bw (HL.out q.val)
      clear hbel h1 h2
      go_wp2_with fail
      go_loopw [7] (fun v7 wq => v7 = .int .i64 1 ∧ wq = wr) (fun _ _ => 0)
      case atStart => exact ⟨rfl, rfl⟩
      case round =>
        obtain ⟨rfl, rfl⟩ := hrel
        go_upto_region 4 with fail
        refine wp_region_bw (by kernel_rfl) (by kernel_rfl) ?_
        repeat (go_big_quiet_step (with_reducible exact K1.out _))
        refine wpQuiet_nil ?_
        rintro _ ⟨kw, rfl⟩
        have CE := Lib.hid (HB.out.step' kw.below)
        clear g0 g1 K1
        generalize kw.val = w3 at *
        go_wp2_with fail
        go_roundw
        case rel => exact ⟨2, by omega, by omega, rfl, CE.out⟩
        case measure => simp [intOf]
    · obtain rfl : i = 2 := by omega
      clear hbel
      go_wp2_with fail
      go_end0
      exact ⟨rfl, HB.out⟩

end Go.Proofs.YtblepmmibhphhaaGreatDoor


/- Sorting and compacting one or two ascending numbers. -/
namespace Go.Proofs.YtblepmmibhphhaaGreatDoor
open Go.RowKit

set_option maxRecDepth 100000 in
set_option maxHeartbeats 4000000 in
theorem lenN64_1 (w : World) : Calls Tryz.prog 157 #[.int .u64 1] w fun e w' => (∃ z : Int, e = .returned (.int .i64 z)) ∧ Below w.heap.size w w' := by
  go_enter Tryz.func157, Tryz.ntmps157
  go_wp2_with fail
  go_ret
  exact ⟨⟨_, rfl⟩, Below.refl _ _⟩
set_option maxRecDepth 100000 in
set_option maxHeartbeats 4000000 in
theorem lenN64_2 (w : World) : Calls Tryz.prog 157 #[.int .u64 2] w fun e w' => (∃ z : Int, e = .returned (.int .i64 z)) ∧ Below w.heap.size w w' := by
  go_enter Tryz.func157, Tryz.ntmps157
  go_wp2_with fail
  go_ret
  exact ⟨⟨_, rfl⟩, Below.refl _ _⟩
set_option maxRecDepth 100000 in
set_option maxHeartbeats 4000000 in
theorem lenN_1 (w : World) : Calls Tryz.prog 131 #[.int .u64 1] w fun e w' => (∃ z : Int, e = .returned (.int .i64 z)) ∧ Below w.heap.size w w' := by
  go_enter Tryz.func131, Tryz.ntmps131
  go_wp2_with fail
  refine (lenN64_1 _).mono ?_
  rintro e w1 ⟨⟨z, rfl⟩, hb⟩
  have CE := Lib.hid hb
  clear hb
  go_wp2_with fail
  go_ret
  exact ⟨⟨_, rfl⟩, CE.out⟩
set_option maxRecDepth 100000 in
set_option maxHeartbeats 4000000 in
theorem lenN_2 (w : World) : Calls Tryz.prog 131 #[.int .u64 2] w fun e w' => (∃ z : Int, e = .returned (.int .i64 z)) ∧ Below w.heap.size w w' := by
  go_enter Tryz.func131, Tryz.ntmps131
  go_wp2_with fail
  refine (lenN64_2 _).mono ?_
  rintro e w1 ⟨⟨z, rfl⟩, hb⟩
  have CE := Lib.hid hb
  clear hb
  go_wp2_with fail
  go_ret
  exact ⟨⟨_, rfl⟩, CE.out⟩
set_option maxRecDepth 100000 in
set_option maxHeartbeats 4000000 in
theorem pdq1_any (A : Option Addr) (c : Nat) (z : Int) (w : World) :
    Calls Tryz.prog 130 #[.slice A 1 c, .int .i64 0, .int .i64 1, .int .i64 z] w fun e w' => e = .returned (.tuple #[]) ∧ Below w.heap.size w w' := by
  go_enter Tryz.func130, Tryz.ntmps130
  go_wp2_with fail
  go_loopw [1, 2] (fun v1 v2 wr => v1 = .int .i64 0 ∧ v2 = .int .i64 1 ∧ wr = w) (fun _ _ _ => 0)
  case atStart => exact ⟨rfl, rfl, rfl⟩
  case round =>
    obtain ⟨rfl, rfl, rfl⟩ := hrel
    go_wp2_with fail
    refine (isortN1_any A c _).mono ?_
    rintro e w1 ⟨rfl, hb⟩
    have CE := Lib.hid hb
    clear hb
    go_wp2_with fail
    refine bodyPost_ret (results_none rfl _ _ _) rfl ?_
    exact ⟨rfl, CE.out⟩
set_option maxRecDepth 100000 in
set_option maxHeartbeats 4000000 in
theorem pdq2_any (x y : Int) (A : Option Addr) (c : Nat) (z : Int) (w : World) (h : SR 1 recN w A 2 c [x, y]) (hxy : x < y) :
    Calls Tryz.prog 130 #[.slice A 2 c, .int .i64 0, .int .i64 2, .int .i64 z] w fun e w' => e = .returned (.tuple #[]) ∧ Below w.heap.size w w' := by
  have H := Lib.hid (isortN2_any x y A c w h hxy)
  clear h hxy
  go_enter Tryz.func130, Tryz.ntmps130
  go_wp2_with fail
  go_loopw [1, 2] (fun v1 v2 wr => v1 = .int .i64 0 ∧ v2 = .int .i64 2 ∧ wr = w) (fun _ _ _ => 0)
  case atStart => exact ⟨rfl, rfl, rfl⟩
  case round =>
    obtain ⟨rfl, rfl, rfl⟩ := hrel
    go_wp2_with fail
    refine H.out.mono ?_
    rintro e w1 ⟨rfl, hb⟩
    have CE := Lib.hid hb
    clear hb
    go_wp2_with fail
    refine bodyPost_ret (results_none rfl _ _ _) rfl ?_
    exact ⟨rfl, CE.out⟩
set_option maxRecDepth 100000 in
set_option maxHeartbeats 4000000 in
theorem sortN1_any (A : Option Addr) (c : Nat) (w : World) :
    Calls Tryz.prog 91 #[.slice A 1 c] w fun e w' => e = .returned (.tuple #[]) ∧ Below w.heap.size w w' := by
  go_enter Tryz.func91, Tryz.ntmps91
  go_wp2_with fail
  refine (lenN_1 _).mono ?_
  rintro e w1 ⟨⟨z, rfl⟩, hb⟩
  have CE := Lib.hid hb
  clear hb
  go_wp2_with fail
  refine (pdq1_any A c z _).mono ?_
  rintro e w2 ⟨rfl, hb⟩
  have CE2 := Lib.hid (CE.out.step' hb)
  clear hb
  go_wp2_with fail
  go_end0
  exact ⟨rfl, CE2.out⟩
set_option maxRecDepth 100000 in
set_option maxHeartbeats 4000000 in
theorem sortN2_any (x y : Int) (A : Option Addr) (c : Nat) (w : World) (h : SR 1 recN w A 2 c [x, y]) (hxy : x < y) :
    Calls Tryz.prog 91 #[.slice A 2 c] w fun e w' => e = .returned (.tuple #[]) ∧ Below w.heap.size w w' := by
  have H := Lib.hid h
  have HX := Lib.hid hxy
  clear h hxy
  go_enter Tryz.func91, Tryz.ntmps91
  go_wp2_with fail
  refine (lenN_2 _).mono ?_
  rintro e w1 ⟨⟨z, rfl⟩, hb⟩
  have CE := Lib.hid hb
  have H1 := Lib.hid (H.out.step hb)
  clear hb
  go_wp2_with fail
  refine (pdq2_any x y A c z _ H1.out HX.out).mono ?_
  rintro e w2 ⟨rfl, hb⟩
  have CE2 := Lib.hid (CE.out.step' hb)
  clear hb
  go_wp2_with fail
  go_end0
  exact ⟨rfl, CE2.out⟩
set_option maxRecDepth 100000 in
set_option maxHeartbeats 4000000 in
theorem compactN1_any (A : Option Addr) (c : Nat) (w : World) :
    Calls Tryz.prog 92 #[.slice A 1 c] w fun e w' => e = .returned (.slice A 1 c) ∧ Below w.heap.size w w' := by
  go_enter Tryz.func92, Tryz.ntmps92
  go_wp2_with fail
  go_ret
  exact ⟨rfl, Below.refl _ _⟩
set_option maxRecDepth 100000 in
set_option maxHeartbeats 4000000 in
theorem compactN2_any (x y : Int) (A : Option Addr) (c : Nat) (w : World) (h : SR 1 recN w A 2 c [x, y]) (hxy : x < y) :
    Calls Tryz.prog 92 #[.slice A 2 c] w fun e w' => e = .returned (.slice A 2 c) ∧ Below w.heap.size w w' := by
  obtain ⟨b, off, z, rfl, hb, hz, e0⟩ := h.atN (i := 0) (by omega)
  obtain rfl : x = z := by simpa using hz
  obtain ⟨b', off', z', he, hb', hz', e1⟩ := h.atN (i := 1) (by omega)
  cases he
  obtain rfl : y = z' := by simpa using hz'
  rw [Nat.add_zero] at e0
  have hne : (y == x) = false := by simp; omega
  have g0 : ∀ q : BW w, q.val.cell? ⟨b, off, none⟩ = some (.int .i64 x) := fun q => q.cell e0
  have g1 : ∀ q : BW w, q.val.cell? ⟨b, off + 1, none⟩ = some (.int .i64 y) := fun q => q.cell e1
  clear hz hz' h hxy e0 e1
  go_enter Tryz.func92, Tryz.ntmps92
  go_upto_region 4 with fail
  go_loopw [3] (fun v wr => (v = .int .i64 1 ∧ wr = w) ∨ (v = .int .i64 2 ∧ Below w.heap.size w wr)) (fun v _ => 2 - (intOf v).toNat)
  case atStart => exact .inl ⟨rfl, rfl⟩
  case round =>
    rcases hrel with ⟨rfl, rfl⟩ | ⟨rfl, hbel⟩
    · go_upto_region 6 with fail
      refine wp_region_bw (by kernel_rfl) (by kernel_rfl) ?_
      repeat (go_big_quiet_step (fail))
      refine wpQuiet_nil ?_
      rintro _ ⟨kw, rfl⟩
      have CE := Lib.hid kw.below
      clear g0 g1
      generalize kw.val = w3 at *
      go_wp2_with fail
      go_roundw
      case rel => exact .inr ⟨rfl, CE.out⟩
      case measure => simp [intOf]
    · have HB := Lib.hid hbel
      clear hbel g0 g1
      go_wp2_with fail
      go_ret
      exact ⟨rfl, HB.out⟩

end Go.Proofs.YtblepmmibhphhaaGreatDoor


/- Small contracts for the router's first check: meet, the search in one range, sorting and compacting one or two numbers, comparing lists of numbers. -/
namespace Go.Proofs.YtblepmmibhphhaaGreatDoor
open Go.RowKit

def meetB (c : Ch) (p : BB) : Bool := (p.2.toList == [] || Op.bytesLess c.lo.toList p.2.toList) && (c.hi.toList == [] || Op.bytesLess p.1.toList c.hi.toList)
abbrev agg2 (p : BB) : Value := .agg #[.string p.1, .string p.2]
set_option maxRecDepth 100000 in
set_option maxHeartbeats 1000000 in
theorem meet_any (c : Ch) (p : BB) (w : World) : Calls Tryz.prog 90 #[aggC c, agg2 p] w fun e w' => e = .returned (.bool (meetB c p)) ∧ Below w.heap.size w w' := by
  have BE : Hid (Below w.heap.size w ((w.alloc (Obj.cells (recC c).toArray 58)).alloc (Obj.cells (rec2 p).toArray 82))) := ((Below.refl _ _).alloc (Nat.le_refl _) _).alloc (by simp) _
  cases h1 : (p.2.toList == [])
  · cases h2 : Op.bytesLess c.lo.toList p.2.toList
    · have HV : Hid (meetB c p = false) := by unfold Hid meetB; rw [h1, h2]; rfl
      go_enter Tryz.func90, Tryz.ntmps90
      go_wp2_with fail
      go_ret
      exact ⟨by rw [HV.out]; rfl, BE.out⟩
    · cases h3 : (c.hi.toList == [])
      · have HV : Hid (meetB c p = Op.bytesLess p.1.toList c.hi.toList) := by unfold Hid meetB; rw [h1, h2, h3]; rfl
        go_enter Tryz.func90, Tryz.ntmps90
        go_wp2_with fail
        go_ret
        exact ⟨by rw [HV.out]; rfl, BE.out⟩
      · have HV : Hid (meetB c p = true) := by unfold Hid meetB; rw [h1, h2, h3]; rfl
        go_enter Tryz.func90, Tryz.ntmps90
        go_wp2_with fail
        go_ret
        exact ⟨by rw [HV.out]; rfl, BE.out⟩
  · cases h3 : (c.hi.toList == [])
    · have HV : Hid (meetB c p = Op.bytesLess p.1.toList c.hi.toList) := by unfold Hid meetB; rw [h1, h3]; rfl
      go_enter Tryz.func90, Tryz.ntmps90
      go_wp2_with fail
      go_ret
      exact ⟨by rw [HV.out]; rfl, BE.out⟩
    · have HV : Hid (meetB c p = true) := by unfold Hid meetB; rw [h1, h3]; rfl
      go_enter Tryz.func90, Tryz.ntmps90
      go_wp2_with fail
      go_ret
      exact ⟨by rw [HV.out]; rfl, BE.out⟩

set_option maxRecDepth 100000 in
set_option maxHeartbeats 1000000 in
theorem tgt1_any (c : Ch) (p : BB) (m : Nat) (w : World) (h : Blk w m 58 (recC c).toArray) :
    Calls Tryz.prog 89 #[agg2 p, .pointer (some ⟨m, 0, none⟩)] w fun e w' => e = .returned (.bool (meetB c p)) ∧ Below w.heap.size w w' := by
  have hm := h.lt
  have e0 : w.cell? ⟨m, 0, none⟩ = some (.string c.lo) := h.cell 0
  have e1 : w.cell? ⟨m, 1, none⟩ = some (.string c.hi) := h.cell 1
  have e2 : w.cell? ⟨m, 2, none⟩ = some (.int .i64 c.sh) := h.cell 2
  have e3 : w.cell? ⟨m, 3, none⟩ = some (.int .i64 c.ver) := h.cell 3
  have e4 : w.cell? ⟨m, 4, none⟩ = some (.bool c.ju) := h.cell 4
  have BE : Hid (Below w.heap.size w (w.alloc (Obj.cells (rec2 p).toArray 82))) := (Below.refl _ _).alloc (Nat.le_refl _) _
  go_enter Tryz.func89, Tryz.ntmps89
  go_wp2_with fail
  refine (meet_any c p _).mono ?_
  rintro e w1 ⟨rfl, hb⟩
  have CE := Lib.hid (BE.out.step' hb)
  clear hb BE
  go_wp2_with fail
  go_ret
  exact ⟨rfl, CE.out⟩

set_option maxRecDepth 100000 in
set_option maxHeartbeats 1000000 in
theorem indexR1_any (c : Ch) (p : BB) (m : Nat) (A : Option Addr) (cc : Nat) (w : World) (h : Blk w m 58 (recC c).toArray) (hr : SR 2 rec2 w A 1 cc [p]) :
    Calls Tryz.prog 129 #[.slice A 1 cc, .func (.func 89) #[] #[.pointer (some ⟨m, 0, none⟩)]] w fun e w' => e = .returned (.int .i64 (if meetB c p then 0 else -1)) ∧ Below w.heap.size w w' := by
  obtain ⟨b, off, x, rfl, hb, hx, e0, e1⟩ := hr.at22 (i := 0) (by omega)
  obtain rfl : p = x := by simpa using hx
  rw [Nat.zero_mul, Nat.add_zero] at e0 e1
  have H := Lib.hid h
  have hbw := hb
  obtain ⟨V, hV⟩ : ∃ V : Int, V = (if meetB c p then 0 else -1) := ⟨_, rfl⟩
  rw [← hV]
  have HVV := Lib.hid hV
  clear hx h hr hV
  go_enter Tryz.func129, Tryz.ntmps129
  go_upto_region 2 with fail
  go_loopw [4, 5, 8] (fun _ _ v wr => ∃ i : Nat, i ≤ 1 ∧ v = .int .i64 i ∧ Below w.heap.size w wr ∧ (i = 1 → meetB c p = false)) (fun _ _ v _ => 1 - (intOf v).toNat)
  case atStart => exact ⟨0, by omega, rfl, Below.refl _ _, fun h => by omega⟩
  case round =>
    obtain ⟨i, hi, rfl, hbel, hf⟩ := hrel
    have HB := Lib.hid hbel
    rcases Nat.eq_zero_or_pos i with h0 | h0
    · subst h0
      replace e0 := (hbel.cell (p := ⟨b, off, none⟩) hbw).trans e0
      replace e1 := (hbel.cell (p := ⟨b, off + 1, none⟩) hbw).trans e1
      have HM := Lib.hid (tgt1_any c p m wr (H.out.step hbel))
      clear hf hbel
      go_wp2_with fail
      refine HM.out.mono ?_
      rintro e w1 ⟨rfl, hb1⟩
      have CE := Lib.hid (HB.out.step' hb1)
      clear hb1 HB HM e0 e1
      cases hq : meetB c p
      · go_wp2_with fail
        go_roundw
        case rel => exact ⟨1, by omega, rfl, CE.out, fun _ => hq⟩
        case measure => simp [intOf]
      · have HF : Hid ((if meetB c p then (0 : Int) else -1) = 0) := by rw [Hid, hq]; rfl
        go_wp2_with fail
        go_ret
        exact ⟨by rw [show V = 0 from HVV.out.trans HF.out]; rfl, CE.out⟩
    · obtain rfl : i = 1 := by omega
      have HF : Hid ((if meetB c p then (0 : Int) else -1) = -1) := by rw [Hid, hf rfl]; rfl
      clear hf hbel
      go_wp2_with fail
      go_ret
      exact ⟨by rw [show V = -1 from HVV.out.trans HF.out]; rfl, HB.out⟩
set_option maxRecDepth 100000 in
set_option maxHeartbeats 1000000 in
theorem containsR1_any (c : Ch) (p : BB) (m : Nat) (A : Option Addr) (cc : Nat) (w : World) (h : Blk w m 58 (recC c).toArray) (hr : SR 2 rec2 w A 1 cc [p]) :
    Calls Tryz.prog 88 #[.slice A 1 cc, .func (.func 89) #[] #[.pointer (some ⟨m, 0, none⟩)]] w fun e w' => e = .returned (.bool (meetB c p)) ∧ Below w.heap.size w w' := by
  have HI := Lib.hid (indexR1_any c p m A cc w h hr)
  clear h hr
  cases hq : meetB c p
  · rw [hq] at HI
    go_enter Tryz.func88, Tryz.ntmps88
    go_wp2_with fail
    refine HI.out.mono ?_
    rintro e w1 ⟨rfl, hb1⟩
    have CE := Lib.hid hb1
    clear hb1 HI
    go_wp2_with fail
    go_ret
    exact ⟨rfl, CE.out⟩
  · rw [hq] at HI
    go_enter Tryz.func88, Tryz.ntmps88
    go_wp2_with fail
    refine HI.out.mono ?_
    rintro e w1 ⟨rfl, hb1⟩
    have CE := Lib.hid hb1
    clear hb1 HI
    go_wp2_with fail
    go_ret
    exact ⟨rfl, CE.out⟩

end Go.Proofs.YtblepmmibhphhaaGreatDoor


/- router.Targets where the predicate has one range and at most two chunks meet it. -/
namespace Go.Proofs.YtblepmmibhphhaaGreatDoor
open Go.RowKit

def outL (p : BB) (l : List Ch) : List Int := (l.filter (meetB · p)).map Ch.sh
theorem outL_at {p : BB} {l : List Ch} {i : Nat} {c : Ch} (h : l[i]? = some c) : outL p (l.drop i) = (if meetB c p then [c.sh] else []) ++ outL p (l.drop (i + 1)) := by
  rw [drop_of h]
  unfold outL
  rw [List.filter_cons]
  split <;> rfl
def FewL (L : List Int) : Prop := (∃ z, L = [z]) ∨ ∃ x y, x < y ∧ L = [x, y]
theorem sortL_any {L : List Int} (hL : FewL L) (A : Option Addr) (c n : Nat) (w : World) (h : SR 1 recN w A n c L) :
    Calls Tryz.prog 91 #[.slice A n c] w fun e w' => e = .returned (.tuple #[]) ∧ Below w.heap.size w w' := by
  have hn := h.ln
  rcases hL with ⟨z, rfl⟩ | ⟨x, y, hxy, rfl⟩
  · obtain rfl : n = 1 := hn
    exact sortN1_any A c w
  · obtain rfl : n = 2 := hn
    exact sortN2_any x y A c w h hxy
theorem compactL_any {L : List Int} (hL : FewL L) (A : Option Addr) (c n : Nat) (w : World) (h : SR 1 recN w A n c L) :
    Calls Tryz.prog 92 #[.slice A n c] w fun e w' => e = .returned (.slice A n c) ∧ Below w.heap.size w w' := by
  have hn := h.ln
  rcases hL with ⟨z, rfl⟩ | ⟨x, y, hxy, rfl⟩
  · obtain rfl : n = 1 := hn
    exact compactN1_any A c w
  · obtain rfl : n = 2 := hn
    exact compactN2_any x y A c w h hxy

set_option maxRecDepth 100000 in
set_option maxHeartbeats 4000000 in
theorem targets_any (R : Ro) (a : RA) (P : Array Value) (hP : P.size = 25) (p : BB) (w : World) (h : RR w a R) (hn : a.cn ≤ 2) (hL : FewL (outL p R.cs))
    (hRG : ∀ wr, Below w.heap.size w wr → Calls Tryz.prog 39 #[.agg #[.slice a.KA a.kn a.kc, .bool R.ha], .agg P] wr fun e w' => ∃ A' c', e = .returned (.slice A' 1 c') ∧ SR 2 rec2 w' A' 1 c' [p] ∧ Below wr.heap.size wr w') :
    Calls Tryz.prog 55 #[rval a R, .agg P] w fun e w' => ∃ A' n c', e = .returned (.slice A' n c') ∧ SR 1 recN w' A' n c' (outL p R.cs) ∧ Below w.heap.size w w' := by
  obtain ⟨j0, hj0, hy0, hy1, hy2⟩ := info_parts info_int
  obtain ⟨KA, kn, kc, CA, cn, cc⟩ := a
  simp only at hn hRG
  have hPi : (Tryz.prog.info? 81).map (·.size) = some P.size := by rw [hP]; kernel_rfl
  have HPI := Lib.hid hPi
  have HCN := Lib.hid hn
  have HL := Lib.hid hL
  have HRG := Lib.hid hRG
  have HSR := Lib.hid h.cs.sr
  have HLN : Hid (R.cs.length = cn) := h.cs.ln.symm
  have B0 : Hid (Blk ((w.alloc (Obj.cells (rarr ⟨KA, kn, kc, CA, cn, cc⟩ R) 45)).alloc (Obj.cells P 81)) w.heap.size 45 (rarr ⟨KA, kn, kc, CA, cn, cc⟩ R)) := (Blk.new_at rfl).alloc _
  have B1 : Hid (Blk ((w.alloc (Obj.cells (rarr ⟨KA, kn, kc, CA, cn, cc⟩ R) 45)).alloc (Obj.cells P 81)) (w.heap.size + 1) 81 P) := Blk.new_at (by simp)
  have BE : Hid (Below w.heap.size w ((w.alloc (Obj.cells (rarr ⟨KA, kn, kc, CA, cn, cc⟩ R) 45)).alloc (Obj.cells P 81))) := ((Below.refl _ _).alloc (Nat.le_refl _) _).alloc (by simp) _
  clear h hn hL hRG hP hPi
  go_enter Tryz.func55, Tryz.ntmps55
  go_upto_region 1 with fail
  change Code.wp _ _ _ _ ((w.alloc (Obj.cells (rarr ⟨KA, kn, kc, CA, cn, cc⟩ R) 45)).alloc (Obj.cells P 81))
  generalize ((w.alloc (Obj.cells (rarr ⟨KA, kn, kc, CA, cn, cc⟩ R) 45)).alloc (Obj.cells P 81)) = wa at *
  obtain ⟨q0, q1, q2, q3, q4, q5, qz⟩ := blk_ro B0.out
  simp only at q1 q5
  go_wp2_with (refine wpList_load_row rfl 81 _ rfl _ rfl _ _ _ _ B1.out rfl rfl HPI.out ?_)
  refine (HRG.out _ BE.out).mono ?_
  rintro e w3 ⟨A3, c3, rfl, hsr, hb⟩
  have H3 := Lib.hid hsr
  have C0 := Lib.hid (B0.out.step hb)
  have CE := Lib.hid (BE.out.step' hb)
  have CSR := Lib.hid (HSR.out.step (BE.out.step' hb))
  clear hb hsr HRG B0 B1 BE HSR q0 q1 q2 q3 q4 q5 qz
  obtain ⟨q0, q1, q2, q3, q4, q5, qz⟩ := blk_ro C0.out
  simp only at q1 q5
  go_wp2_with fail
  go_loopw [5, 16] (fun u5 u16 wr => ∃ (i : Nat) (L' : List Int), i ≤ cn ∧ L'.length ≤ i ∧ u16 = .int .i64 i ∧ outL p R.cs = L' ++ outL p (R.cs.drop i) ∧ wr.ownsRow w3.heap.size 3 1 u5 L'.length (flat recN L') ∧ Below w3.heap.size w3 wr) (fun _ u16 _ => cn - (intOf u16).toNat)
  case atStart => exact ⟨0, [], Nat.zero_le _, Nat.le_refl _, rfl, rfl, own_nil _ _ _ _, Below.refl _ _⟩
  case round =>
    obtain ⟨i, L', hi, hql, rfl, hall, hown, hbel⟩ := hrel
    have HQL := Lib.hid hql
    have HA := Lib.hid hall
    have HO := Lib.hid hown
    have HB := Lib.hid hbel
    clear hql hall hown q0 q1 q2 q3 q4 q5 qz
    by_cases hlt : i < cn
    · obtain ⟨b, off, c, hA, hbw, hc, e0, e1, e2, e3, e4⟩ := CSR.out.at5 hlt
      subst hA
      have HC := Lib.hid hc
      replace e0 := (hbel.cell (p := ⟨b, off + i * 5, none⟩) hbw).trans e0
      replace e1 := (hbel.cell (p := ⟨b, off + i * 5 + 1, none⟩) hbw).trans e1
      replace e2 := (hbel.cell (p := ⟨b, off + i * 5 + 2, none⟩) hbw).trans e2
      replace e3 := (hbel.cell (p := ⟨b, off + i * 5 + 3, none⟩) hbw).trans e3
      replace e4 := (hbel.cell (p := ⟨b, off + i * 5 + 4, none⟩) hbw).trans e4
      have i0' : (0 : Int) ≤ (i : Int) := by omega
      have i1' : (i : Int) < (cn : Int) := by omega
      have hcn2 : (cn : Int) ≤ 2 := by have := HCN.out; omega
      clear hc hbel hbw
      go_upto_region 6 with fail
      change Code.wp _ _ _ _ (wr.alloc (Obj.cells (recC c).toArray 58))
      have JB : Hid (Blk (wr.alloc (Obj.cells (recC c).toArray 58)) wr.heap.size 58 (recC c).toArray) := Blk.new_at rfl
      have IB := Lib.hid (own_step HO.out ((Below.refl wr.heap.size wr).alloc (Nat.le_refl _) (Obj.cells (recC c).toArray 58)))
      have IBE := Lib.hid (HB.out.alloc HB.out.size (Obj.cells (recC c).toArray 58))
      generalize wr.alloc (Obj.cells (recC c).toArray 58) = wb at *
      generalize wr.heap.size = ga at *
      clear e0 e1 e2 e3 e4 HO HB
      have HK := Lib.hid (containsR1_any c p ga A3 c3 wb JB.out (H3.out.step IBE.out))
      cases hm : meetB c p
      · have HF : Hid (outL p R.cs = L' ++ outL p (R.cs.drop (i + 1))) := by
          unfold Hid
          rw [HA.out, outL_at HC.out, hm]
          rfl
        rw [hm] at HK
        clear hm
        go_wp2_with fail
        refine HK.out.mono ?_
        rintro e w4 ⟨rfl, hb⟩
        have IC := Lib.hid (own_step IB.out hb)
        have ICE := Lib.hid (IBE.out.step' hb)
        clear hb IB IBE JB HK
        go_wp2_with fail
        go_roundw
        case rel => exact ⟨i + 1, L', hlt, by have := HQL.out; omega, by go_num, HF.out, IC.out, ICE.out⟩
        case measure => simp [intOf]; omega
      · have HF : Hid (outL p R.cs = (L' ++ [c.sh]) ++ outL p (R.cs.drop (i + 1))) := by
          unfold Hid
          rw [HA.out, outL_at HC.out, hm]
          simp
        rw [hm] at HK
        clear hm
        go_wp2_with fail
        refine HK.out.mono ?_
        rintro e w4 ⟨rfl, hb⟩
        have IC := Lib.hid ((own_step IB.out hb))
        have ICE := Lib.hid (IBE.out.step' hb)
        have JC := Lib.hid (JB.out.step hb)
        clear hb IB IBE JB HK
        have s2 := JC.out.cell 2
        simp [recC] at s2
        have hlo3 : w3.heap.size ≤ w4.heap.size := ICE.out.size
        have hqi : L'.length ≤ 2 := by have := HQL.out; have := HCN.out; omega
        have ID := Lib.hid (own_step IC.out ((Below.refl w4.heap.size w4).alloc (Nat.le_refl _) (Obj.cells (recN c.sh).toArray 3)))
        have IDE := Lib.hid (ICE.out.alloc ICE.out.size (Obj.cells (recN c.sh).toArray 3))
        clear IC ICE
        go_wp2_with (at_builtin; refine wpList_append_any _ rfl _ _ 94 rfl w3.heap.size 3 j0 (.int .i64 0) 1 8 Tryz.underlying94 hj0 hy0 hy1 hy2 rfl (by decide) u5 L'.length (flat recN L') rfl ID.out _ _ 1 _ (recN c.sh) rfl ⟨rfl, fun _ => ⟨_, rfl, Nat.lt_succ_self _, news_at _ _ _⟩⟩ (recN_one _) (by unfold maxLen; omega) (by omega) (le_alloc hlo3 _) ?_)
        intro v' w6 hown hgr hat
        have HI : Hid (w6.ownsRow w3.heap.size 3 1 v' (L' ++ [c.sh]).length (flat recN (L' ++ [c.sh]))) := by
          unfold Hid
          rw [flat_snoc, List.length_append]
          exact hown
        have HIE := Lib.hid (IDE.out.grown hgr (le_alloc hlo3 _) (own_ge ID.out))
        clear hown hgr hat s2 JC ID IDE
        go_wp2_with fail
        go_roundw
        case rel => exact ⟨i + 1, L' ++ [c.sh], hlt, by rw [List.length_append]; have := HQL.out; simp; omega, by go_num, HF.out, HI.out, HIE.out⟩
        case measure => simp [intOf]; omega
    · obtain rfl : i = cn := by omega
      have HF : outL p R.cs = L' := by
        rw [HA.out, List.drop_of_length_le (by have := HLN.out; omega)]
        simp [outL]
      obtain ⟨A5, c5, hv5, hs5⟩ := SR.of_own recN_length HO.out rfl
      subst hv5
      rw [HF] at HL
      have HFF := Lib.hid HF
      have HS5 := Lib.hid hs5
      have HSO := Lib.hid (sortL_any HL.out A5 c5 _ wr hs5)
      clear hs5 HF hbel HA HO
      go_wp2_with fail
      refine HSO.out.mono ?_
      rintro e w7 ⟨rfl, hb⟩
      have HS7 := Lib.hid (HS5.out.step hb)
      have HE7 := Lib.hid (HB.out.step' hb)
      have HCO := Lib.hid (compactL_any HL.out A5 c5 _ w7 HS7.out)
      clear hb HS5 HSO
      go_wp2_with fail
      refine HCO.out.mono ?_
      rintro e w8 ⟨rfl, hb⟩
      have HS8 := Lib.hid (HS7.out.step hb)
      have HE8 := Lib.hid (CE.out.step' (HE7.out.step' hb))
      clear hb HS7 HCO
      go_wp2_with fail
      go_ret
      exact ⟨A5, _, c5, rfl, by rw [HFF.out]; exact HS8.out, HE8.out⟩

end Go.Proofs.YtblepmmibhphhaaGreatDoor


/- What the router's first check computes, at closed arguments. -/
namespace Go.Proofs.YtblepmmibhphhaaGreatDoor
open Go.RowKit

set_option maxRecDepth 100000 in
set_option maxHeartbeats 1000000 in
theorem after1_any (s : ByteArray) (x : Nat) (w : World) (hs : s.size = 1) (hx : ((s[0]'(by omega)).toNat : Int) = (x : Int)) (hx2 : x < 255) :
    Calls Tryz.prog 113 #[.string s] w fun e w' => e = .returned (.tuple #[.string (strOfNums [((x + 1 : Nat) : Int)]), .bool true]) ∧ Below w.heap.size w w' := by
  have h1 : ((x : Int) == 255) = false := by simp; omega
  have h2 : ((x : Int) + 1) % 256 = ((x + 1 : Nat) : Int) := by omega
  obtain ⟨z, hz⟩ : ∃ z : Int, z = ((x + 1 : Nat) : Int) := ⟨_, rfl⟩
  have hzx : z = (x : Int) + 1 := by omega
  have hcv : (convert 114 9 (.slice (some ⟨w.heap.size, 0, none⟩) 1 1)).run Tryz.prog ((w.alloc (Obj.cells #[.int .u8 ((x : Int) + 1)] 5)).drew) = .ok (.string (strOfNums [z])) ((w.alloc (Obj.cells #[.int .u8 ((x : Int) + 1)] 5)).drew) := by
    rw [← hzx]
    refine run_convert_bytes_arg (P := Tryz.prog) _ 114 5 Tryz.underlying114 Tryz.underlying5 w.heap.size 0 1 1 [z] rfl (fun i hi => ?_) 9 Tryz.underlying9
    obtain rfl : i = 0 := by omega
    exact (Blk.new w 5 #[.int .u8 z]).drew.cell 0
  rw [← hz]
  obtain ⟨Z, hZ⟩ : ∃ Z, Z = strOfNums [z] := ⟨_, rfl⟩
  rw [← hZ] at hcv ⊢
  have hZs : Z.size = 1 := by rw [hZ, strOfNums_size]; rfl
  have HZ := Lib.hid hZ
  have HZZ := Lib.hid hz
  clear hz hZ h2 hzx
  go_enter Tryz.func113, Tryz.ntmps113
  go_upto_region 2 with fail
  go_loopw [4] (fun v wr => v = .int .i64 1 ∧ wr = w) (fun _ _ => 0)
  case atStart => exact ⟨rfl, rfl⟩
  case round =>
    obtain ⟨rfl, rfl⟩ := hrel
    go_wp2_with fail
    go_region
    all_goals
      go_wp2_with fail
      go_ret2
      exact ⟨rfl, ((Below.refl _ _).alloc (Nat.le_refl _) _).drew⟩

abbrev k10 : ByteArray := ⟨#[3, 128, 0, 0, 0, 0, 0, 0, 10]⟩
abbrev k9 : ByteArray := ⟨#[3, 128, 0, 0, 0, 0, 0, 0, 9]⟩
abbrev k11 : ByteArray := ⟨#[3, 128, 0, 0, 0, 0, 0, 0, 11]⟩
abbrev k3 : ByteArray := ⟨#[3, 128, 0, 0, 0, 0, 0, 0, 3]⟩
theorem keyR_10 : keyR [vI 10] = (k10, 0) := by rw [keyR_i, key10_eq]
theorem after_10 (w : World) : Calls Tryz.prog 113 #[.string k10] w fun e w' => e = .returned (.tuple #[.string (k10.extract 0 8 ++ strOfNums [((10 + 1 : Nat) : Int)]), .bool true]) ∧ Below w.heap.size w w' :=
  after9_any k10 10 w rfl rfl (by omega)
theorem k11_eq : k10.extract 0 8 ++ strOfNums [((10 + 1 : Nat) : Int)] = k11 := by kernel_rfl
theorem sound_vMin : SoundV nameB vMin := (SoundV_iff _ _).2 ⟨by simp [HeadP, vMin, Val.k, Val.n, Val.t, Val.l, Val.d], by simp [vMin, Val.l], by simp [vMin, Val.d], by simp [vMin, Val.d, NamesP]⟩
theorem valid_vMin : validV vMin = true := by
  have h1 : vMin.size = 1 := by simp [vMin, Val.size]
  have h2 : vMin.height = 1 := by simp [vMin, Val.height]
  unfold validV
  rw [decide_eq_true (by omega), decide_eq_true (by omega), soundB_true sound_vMin]
  rfl
theorem sound_vMax : SoundV nameB vMax := (SoundV_iff _ _).2 ⟨by simp [HeadP, vMax, Val.k, Val.n, Val.t, Val.l, Val.d], by simp [vMax, Val.l], by simp [vMax, Val.d], by simp [vMax, Val.d, NamesP]⟩
theorem valid_vMax : validV vMax = true := by
  have h1 : vMax.size = 1 := by simp [vMax, Val.size]
  have h2 : vMax.height = 1 := by simp [vMax, Val.height]
  unfold validV
  rw [decide_eq_true (by omega), decide_eq_true (by omega), soundB_true sound_vMax]
  rfl
theorem keyR_min : keyR [vMin] = (⟨#[1]⟩, 0) := by
  rw [keyR_yes (by unfold allowsB; simp [allow_valid valid_vMin])]
  have : strOfNums (encAll [vMin]) = ⟨#[1]⟩ := by kernel_rfl
  rw [this]
theorem keyR_max : keyR [vMax] = (⟨#[11]⟩, 0) := by
  rw [keyR_yes (by unfold allowsB; simp [allow_valid valid_vMax])]
  have : strOfNums (encAll [vMax]) = ⟨#[11]⟩ := by kernel_rfl
  rw [this]
theorem after_max (w : World) : Calls Tryz.prog 113 #[.string ⟨#[11]⟩] w fun e w' => e = .returned (.tuple #[.string (strOfNums [((11 + 1 : Nat) : Int)]), .bool true]) ∧ Below w.heap.size w w' :=
  after1_any ⟨#[11]⟩ 11 w rfl rfl (by omega)
abbrev cc0 : Ch := ⟨ByteArray.empty, k10, 0, 2, false⟩
abbrev cc1 : Ch := ⟨k10, ByteArray.empty, 1, 1, false⟩
abbrev R50 : Ro := ⟨⟨#[115]⟩, ks1, false, 1, 2, [cc0, cc1]⟩
theorem out_10 : outL (k10, k11) R50.cs = [1] := by kernel_rfl
theorem out_all : outL (ByteArray.empty, ByteArray.empty) R50.cs = [0, 1] := by kernel_rfl
theorem enc_9 : encR ks1 false (vD 9) = (k9, 0) := by rw [enc_d, key9_eq]
theorem enc_3 : encR ks1 false (vD 3) = (k3, 0) := by rw [enc_d, key3_eq]
theorem enc_11 : encR ks1 false (vD 11) = (k11, 0) := by rw [enc_d, key11_eq]
theorem idx_9 : idxI (inB k9) R50.cs = 0 := by kernel_rfl
theorem own_9 : ownC R50 k9 = 0 := by kernel_rfl
theorem rou_9 : rouR R50 (vD 9) = (0, 0) := by
  unfold rouR
  rw [show encR R50.ks R50.ha (vD 9) = (k9, 0) from enc_9]
  rw [if_pos rfl, idx_9, if_neg (by decide), own_9]
theorem owns_10 : ownsB R50 1 k10 = true := by kernel_rfl
theorem owns_10' : ownsB R50 0 k10 = false := by kernel_rfl
theorem ver_0 : verR 0 R50.cs = 2 := by kernel_rfl
theorem ver_1 : verR 1 R50.cs = 1 := by kernel_rfl
theorem chk_0 : chkE R50 (verR 0 R50.cs) 1 2 = 0 := by rw [ver_0]; rfl
theorem chk_1 : chkE R50 (verR 1 R50.cs) 1 2 = 27 := by rw [ver_1]; rfl
theorem owns_3 : ownsB R50 1 k3 = false := by kernel_rfl
theorem owns_11 : ownsB R50 1 k11 = true := by kernel_rfl
theorem ownl_50 : ownL R50 1 [vD 3, vD 11] = [vD 11] := by
  have h3 : ownP R50 1 (vD 3) = false := by
    unfold ownP
    rw [show encR R50.ks R50.ha (vD 3) = (k3, 0) from enc_3, owns_3]
    rfl
  have h11 : ownP R50 1 (vD 11) = true := by
    unfold ownP
    rw [show encR R50.ks R50.ha (vD 11) = (k11, 0) from enc_11, owns_11]
    rfl
  unfold ownL
  rw [List.filter_cons, h3, List.filter_cons, h11]
  rfl

end Go.Proofs.YtblepmmibhphhaaGreatDoor


/- The router's first check. Printed by gen_roawake.py. -/
namespace Go.Proofs.YtblepmmibhphhaaGreatDoor
open Go.RowKit
set_option linter.unusedSimpArgs false

abbrev fieldA (n : Int) : Array Value := #[.string ka, .int .i64 3, .int .i64 n, .string ByteArray.empty, .slice none 0 0, .slice none 0 0]
theorem srn_list {w : World} {g n : Nat} {t : TypeId} {l : List Int} (h : Blk w g t (flat recN l).toArray) (hn : n = l.length) : SR 1 recN w (some ⟨g, 0, none⟩) n n l := by
  refine ⟨hn, Nat.le_refl _, fun _ => ⟨g, 0, rfl, h.lt, fun i a hi j v hj => ?_⟩⟩
  rw [Nat.zero_add, h.cell, List.getElem?_toArray]
  exact flat_get recN_length hi hj
theorem slr_list {w : World} {g n : Nat} {ps : List PV} (h : Blk w g 28 (flat recV ps).toArray) (hn : n = ps.length) (hz : n * 80 ≤ reach) (hok : ∀ p ∈ ps, RW w p.1 p.2) : SL (fun _ => True) w (some ⟨g, 0, none⟩) n n ps := by
  refine ⟨⟨hn, Nat.le_refl _, fun _ => ⟨g, 0, rfl, h.lt, fun i a hi j v hj => ?_⟩⟩, hz, fun _ => ⟨_, _, rfl, Ft.top⟩, hok⟩
  rw [Nat.zero_add, h.cell, List.getElem?_toArray]
  exact flat_get recV_length hi hj
theorem cs_list {w : World} {g n : Nat} {l : List Ch} (h : Blk w g 58 (flat recC l).toArray) (hn : n = l.length) (hz : n * 56 ≤ reach) : CS w (some ⟨g, 0, none⟩) n n l := by
  refine ⟨⟨hn, Nat.le_refl _, fun _ => ⟨g, 0, rfl, h.lt, fun i a hi j v hj => ?_⟩⟩, hz⟩
  rw [Nat.zero_add, h.cell, List.getElem?_toArray]
  exact flat_get recC_length hi hj
/-- a document with a number -/
def DocOk (n : Int) (w : World) (e : Ending) (w' : World) : Prop :=
  ∃ g : Nat, e = .returned (cD g).val ∧ Blk w' g 69 (fieldA n) ∧ Below w.heap.size w w'
set_option maxRecDepth 100000 in
set_option maxHeartbeats 1000000 in
theorem doc50_any (n : Int) (w : World) : Calls Tryz.prog 56 #[.int .i64 n] w (DocOk n w) := by
  obtain ⟨W2, hW⟩ : ∃ W2, (w.alloc (Obj.cells (cD (w.heap.size + 1)).arr 28)).alloc (Obj.cells (fieldA n) 69) = W2 := ⟨_, rfl⟩
  have hB : Hid (Blk W2 w.heap.size 28 (cD (w.heap.size + 1)).arr) := by rw [← hW]; exact (Blk.new_at rfl).alloc _
  have hF : Hid (Blk W2 (w.heap.size + 1) 69 (fieldA n)) := by rw [← hW]; exact Blk.new_at (by simp)
  have hE : Hid (Below w.heap.size w W2) := by rw [← hW]; exact ((Below.refl _ _).alloc (Nat.le_refl _) _).alloc (by simp) _
  have HW := Lib.hid hW
  clear hW
  go_enter Tryz.func56, Tryz.ntmps56
  go_wp2_with fail
  change bodyPost _ _ _ _ _ ((w.alloc (Obj.cells (cD (w.heap.size + 1)).arr 28)).alloc (Obj.cells (fieldA n) 69))
  rw [HW.out]
  have hV := VAt.of_blk hB.out
  exact bodyPost_ret (results_val rfl _ w.heap.size 0 rfl _ (cD (w.heap.size + 1)) hV) rfl ⟨w.heap.size + 1, rfl, hF.out, hE.out⟩

set_option maxRecDepth 100000 in
set_option maxHeartbeats 4000000 in
theorem awake50_any (w : World) (hT : Tabs w) : Calls Tryz.prog 21 #[] w fun e w' => e = .returned (.bool true) ∧ Below w.heap.size w w' := by
  have HT := Lib.hid hT
  clear hT
  obtain ⟨W1, hW⟩ : ∃ W1, (((w.alloc (Obj.cells #[.string ka] 9)).alloc (Obj.cells (cI 10).arr 28)).alloc (Obj.cells (cI 10).arr 28)).alloc (Obj.cells #[.bool false] 4) = W1 := ⟨_, rfl⟩
  have P0 : Hid (Blk W1 w.heap.size 9 #[.string ka]) := by rw [← hW]; exact (((Blk.new_at rfl).alloc _).alloc _).alloc _
  have P1 : Hid (Blk W1 (w.heap.size + 1) 28 (cI 10).arr) := by rw [← hW]; exact ((Blk.new_at (by simp)).alloc _).alloc _
  have P2 : Hid (Blk W1 (w.heap.size + 1 + 1) 28 (cI 10).arr) := by rw [← hW]; exact (Blk.new_at (by simp)).alloc _
  have P3 : Hid (Blk W1 (w.heap.size + 1 + 1 + 1) 4 #[.bool false]) := by rw [← hW]; exact Blk.new_at (by simp)
  have Z1 : Hid (Below w.heap.size w W1) := by rw [← hW]; exact ((((Below.refl _ _).alloc (Nat.le_refl _) _).alloc (by simp) _).alloc (by simp; omega) _).alloc (by simp; omega) _
  have HENC : Hid (Calls Tryz.prog 46 #[.slice (some ⟨w.heap.size + 1 + 1, 0, none⟩) 1 1, .slice (some ⟨w.heap.size + 1 + 1 + 1, 0, none⟩) 1 1] W1 fun e w' => e = .returned (.tuple #[.string k10, .int .i64 0]) ∧ Below W1.heap.size W1 w') := Lib.hid (by
    have := rencode_any [(cI 10, vI 10)] (some ⟨w.heap.size + 1 + 1, 0, none⟩) (some ⟨w.heap.size + 1 + 1 + 1, 0, none⟩) 1 1 1 W1 (sl_one P2.out (rw_i 10 _)) (sx_one P3.out) (by omega)
    rw [show [(cI 10, vI 10)].map Prod.snd = [vI 10] from rfl, keyR_10] at this
    exact this)
  have HW := Lib.hid hW
  clear hW
  go_enter Tryz.func21, Tryz.ntmps21
  go_wp2_with fail
  change Calls _ _ _ ((((w.alloc (Obj.cells #[.string ka] 9)).alloc (Obj.cells (cI 10).arr 28)).alloc (Obj.cells (cI 10).arr 28)).alloc (Obj.cells #[.bool false] 4)) _
  rw [HW.out]
  refine HENC.out.mono ?_
  rintro e w5 ⟨rfl, hb⟩
  replace P0 := Lib.hid (P0.out.step hb)
  replace P1 := Lib.hid (P1.out.step hb)
  have Z5 := Lib.hid (Z1.out.step' hb)
  clear hb HENC HW P2 P3 Z1
  obtain ⟨x0, x1, x2, x3, x4⟩ := VAt.of_blk P1.out
  simp only [Nat.zero_add] at x0 x1 x2 x3 x4
  go_upto_region 5 with fail
  obtain ⟨W6, hW⟩ : ∃ W6, ((w5.alloc (Obj.cells #[.slice (some ⟨w.heap.size, 0, none⟩) 1 1, .bool false] 65)).alloc (Obj.cells (flat recC [cc0, cc1]).toArray 58)).alloc (Obj.cells (rarr ⟨some ⟨w5.heap.size, 0, none⟩, 1, 1, some ⟨w5.heap.size + 1, 0, none⟩, 2, 2⟩ R50) 45) = W6 := ⟨_, rfl⟩
  have Q0 : Hid (Blk W6 w5.heap.size 65 #[.slice (some ⟨w.heap.size, 0, none⟩) 1 1, .bool false]) := by rw [← hW]; exact ((Blk.new_at rfl).alloc _).alloc _
  have Q1 : Hid (Blk W6 (w5.heap.size + 1) 58 (flat recC [cc0, cc1]).toArray) := by rw [← hW]; exact (Blk.new_at (by simp)).alloc _
  have Q2 : Hid (Blk W6 (w5.heap.size + 1 + 1) 45 (rarr ⟨some ⟨w5.heap.size, 0, none⟩, 1, 1, some ⟨w5.heap.size + 1, 0, none⟩, 2, 2⟩ R50)) := by rw [← hW]; exact Blk.new_at (by simp)
  have hb6 : Below w5.heap.size w5 W6 := by rw [← hW]; exact (((Below.refl _ _).alloc (Nat.le_refl _) _).alloc (by simp) _).alloc (by simp; omega) _
  replace P0 := Lib.hid (P0.out.step hb6)
  replace P1 := Lib.hid (P1.out.step hb6)
  have Z6 := Lib.hid (Z5.out.step' hb6)
  change Code.wp _ _ _ _ (((w5.alloc (Obj.cells #[.slice (some ⟨w.heap.size, 0, none⟩) 1 1, .bool false] 65)).alloc (Obj.cells (flat recC [cc0, cc1]).toArray 58)).alloc (Obj.cells (rarr ⟨some ⟨w5.heap.size, 0, none⟩, 1, 1, some ⟨w5.heap.size + 1, 0, none⟩, 2, 2⟩ R50) 45))
  rw [hW]
  clear hW hb6 x0 x1 x2 x3 x4 Z5
  generalize w5.heap.size + 1 + 1 = gr at *
  generalize w5.heap.size + 1 = gc at *
  generalize w5.heap.size = go at *
  generalize w.heap.size + 1 = gt at *
  obtain ⟨x0, x1, x2, x3, x4⟩ := VAt.of_blk P1.out
  simp only [Nat.zero_add] at x0 x1 x2 x3 x4
  obtain ⟨q0, q1, q2, q3, q4, q5, qz⟩ := blk_ro Q2.out
  simp only at q1 q5
  have RRR : Hid (RR W6 (⟨some ⟨go, 0, none⟩, 1, 1, some ⟨gc, 0, none⟩, 2, 2⟩ : RA) R50) := Lib.hid ⟨by show 1 ≤ reach; decide, ks_ka P0.out Q0.out, cs_list Q1.out rfl (by show 2 * 56 ≤ reach; decide)⟩
  have HT1 : Hid (Calls Tryz.prog 55 #[rval (⟨some ⟨go, 0, none⟩, 1, 1, some ⟨gc, 0, none⟩, 2, 2⟩ : RA) R50, .agg (predA 2 (some ⟨w.heap.size, 0, none⟩) 1 1 (cI 10))] W6 fun e w' => ∃ A' n c', e = .returned (.slice A' n c') ∧ SR 1 recN w' A' n c' [1] ∧ Below W6.heap.size W6 w') := Lib.hid (by
    have := targets_any R50 (⟨some ⟨go, 0, none⟩, 1, 1, some ⟨gc, 0, none⟩, 2, 2⟩ : RA) (predA 2 (some ⟨w.heap.size, 0, none⟩) 1 1 (cI 10)) rfl (k10, k10.extract 0 8 ++ strOfNums [((10 + 1 : Nat) : Int)]) W6 RRR.out (by show 2 ≤ 2; decide) (by rw [k11_eq, out_10]; exact .inl ⟨1, rfl⟩)
      (fun wr hb => ranges1_any (ptIv (vI 10)) true k10 k10 (k10.extract 0 8 ++ strOfNums [((10 + 1 : Nat) : Int)]) k10 (k10.extract 0 8 ++ strOfNums [((10 + 1 : Nat) : Int)]) (predA 2 (some ⟨w.heap.size, 0, none⟩) 1 1 (cI 10)) rfl ⟨some ⟨w.heap.size, 0, none⟩, 1, 1, false⟩ go 0 1 1 wr (HT.out.step (Z6.out.step' hb)) (by omega) ((Q0.out.step hb).cell 0) ⟨rfl, rfl⟩ keyR_10 keyR_10 (.inl ⟨by show (3 : Int) ≠ 1; decide, by show (3 : Int) ≠ 11; decide, rfl, rfl⟩) after_10
        (fun wq hq => of_eq (vI 10) (cI 10) (some ⟨w.heap.size, 0, none⟩) (some ⟨w.heap.size, 0, none⟩) 1 1 1 1 [ka] wq (HT.out.step ((Z6.out.step' hb).step' hq)) (rw_i 10 wq) (valid_i 10) (by show (3 : Int) ≠ 6; decide) (by show (3 : Int) ≠ 2; decide) (st_ka ((P0.out.step hb).step hq)) (st_ka ((P0.out.step hb).step hq)) same_ka))
    rw [k11_eq, out_10] at this
    exact this)
  have HT2 : Hid (∀ wy, Below W6.heap.size W6 wy → Calls Tryz.prog 55 #[rval (⟨some ⟨go, 0, none⟩, 1, 1, some ⟨gc, 0, none⟩, 2, 2⟩ : RA) R50, .agg (predA 1 none 0 0 VC.zero)] wy fun e w' => ∃ A' n c', e = .returned (.slice A' n c') ∧ SR 1 recN w' A' n c' [0, 1] ∧ Below wy.heap.size wy w') := Lib.hid fun wy hy => by
    have := targets_any R50 (⟨some ⟨go, 0, none⟩, 1, 1, some ⟨gc, 0, none⟩, 2, 2⟩ : RA) (predA 1 none 0 0 VC.zero) rfl (ByteArray.empty, ByteArray.empty) wy (RRR.out.step hy) (by show 2 ≤ 2; decide) (by rw [out_all]; exact .inr ⟨0, 1, by decide, rfl⟩)
      (fun wr hb => ranges1_any allIv false ⟨#[1]⟩ ⟨#[11]⟩ (strOfNums [((11 + 1 : Nat) : Int)]) ByteArray.empty ByteArray.empty (predA 1 none 0 0 VC.zero) rfl ⟨some ⟨w.heap.size, 0, none⟩, 1, 1, false⟩ go 0 1 1 wr (HT.out.step ((Z6.out.step' hy).step' hb)) (by omega) (((Q0.out.step hy).step hb).cell 0) ⟨rfl, rfl⟩ keyR_min keyR_max (.inr ⟨rfl, rfl, rfl, rfl⟩) after_max
        (fun wq hq => of_true (some ⟨w.heap.size, 0, none⟩) 1 1 [ka] wq (st_ka (((P0.out.step hy).step hb).step hq)) rfl))
    rw [out_all] at this
    exact this
  go_wp2_with fail
  refine HT1.out.mono ?_
  rintro e w7 ⟨A1, n1, c1, rfl, hs1, hb⟩
  obtain rfl : n1 = 1 := hs1.ln
  have HN2 := Lib.hid (HT2.out w7 hb)
  have S1 := Lib.hid hs1
  replace Q2 := Lib.hid (Q2.out.step hb)
  replace RRR := Lib.hid (RRR.out.step hb)
  have Z7 := Lib.hid (Z6.out.step' hb)
  clear hb hs1 HT1 HT2 Z6 Q0 Q1 P0 P1 x0 x1 x2 x3 x4 q0 q1 q2 q3 q4 q5 qz
  obtain ⟨q0, q1, q2, q3, q4, q5, qz⟩ := blk_ro Q2.out
  simp only at q1 q5
  go_wp2_with fail
  refine HN2.out.mono ?_
  rintro e w8 ⟨A2, n2, c2, rfl, hs2, hb⟩
  obtain rfl : n2 = 2 := hs2.ln
  have S2 := Lib.hid hs2
  replace S1 := Lib.hid (S1.out.step hb)
  replace Q2 := Lib.hid (Q2.out.step hb)
  replace RRR := Lib.hid (RRR.out.step hb)
  have Z8 := Lib.hid (Z7.out.step' hb)
  clear hb hs2 HN2 Z7 q0 q1 q2 q3 q4 q5 qz
  obtain ⟨q0, q1, q2, q3, q4, q5, qz⟩ := blk_ro Q2.out
  simp only at q1 q5
  go_upto_region 7 with fail
  have B := Lib.hid ((Below.refl w8.heap.size w8).drewN 1)
  have KSS : Hid (∀ w', Below w8.heap.size w8 w' → w'.cell? ⟨gr, 0, none⟩ = some (.string R50.sp) ∧ w'.cell? ⟨gr, 1, none⟩ = some (.slice (some ⟨go, 0, none⟩) 1 1) ∧ w'.cell? ⟨gr, 2, none⟩ = some (.bool R50.ha) ∧ w'.cell? ⟨gr, 3, none⟩ = some (.int .i64 R50.ep) ∧ w'.cell? ⟨gr, 4, none⟩ = some (.int .i64 R50.ver) ∧ w'.cell? ⟨gr, 5, none⟩ = some (.slice (some ⟨gc, 0, none⟩) 2 2)) := Lib.hid fun w' hb => ⟨(hb.cell (p := ⟨gr, 0, none⟩) Q2.out.lt).trans q0, (hb.cell (p := ⟨gr, 1, none⟩) Q2.out.lt).trans q1, (hb.cell (p := ⟨gr, 2, none⟩) Q2.out.lt).trans q2, (hb.cell (p := ⟨gr, 3, none⟩) Q2.out.lt).trans q3, (hb.cell (p := ⟨gr, 4, none⟩) Q2.out.lt).trans q4, (hb.cell (p := ⟨gr, 5, none⟩) Q2.out.lt).trans q5⟩
  have HROU : Hid (∀ (g : Nat) (wq : World), Tabs wq → RR wq (⟨some ⟨go, 0, none⟩, 1, 1, some ⟨gc, 0, none⟩, 2, 2⟩ : RA) R50 → RW wq (cD g) (vD 9) → Calls Tryz.prog 22 #[rval (⟨some ⟨go, 0, none⟩, 1, 1, some ⟨gc, 0, none⟩, 2, 2⟩ : RA) R50, (cD g).val] wq fun e w' => e = .returned (.tuple #[.int .i64 0, .int .i64 0]) ∧ Below wq.heap.size wq w') := Lib.hid fun g wq ht hk hr => by
    have := route_any R50 (⟨some ⟨go, 0, none⟩, 1, 1, some ⟨gc, 0, none⟩, 2, 2⟩ : RA) (vD 9) (cD g) wq ht hk hr (by decide)
    rw [rou_9] at this
    exact this
  clear q0 q1 q2 q3 q4 q5 qz
  go_cut [8, 9] (fun v8 v9 wx => v8 = .int .i64 0 ∧ v9 = .int .i64 0 ∧ Below w8.heap.size w8 wx)
  case first =>
    go_region_held3 (fun w' => w'.cell? ⟨gr, 0, none⟩ = some (.string R50.sp) ∧ w'.cell? ⟨gr, 1, none⟩ = some (.slice (some ⟨go, 0, none⟩) 1 1) ∧ w'.cell? ⟨gr, 2, none⟩ = some (.bool R50.ha) ∧ w'.cell? ⟨gr, 3, none⟩ = some (.int .i64 R50.ep) ∧ w'.cell? ⟨gr, 4, none⟩ = some (.int .i64 R50.ver) ∧ w'.cell? ⟨gr, 5, none⟩ = some (.slice (some ⟨gc, 0, none⟩) 2 2))
      (first | exact KSS.out _ B.out | ((try dsimp only); assumption) | go_keep)
      (first
        | (go_at_call 56; refine (doc50_any 9 _).mono ?_; rintro e3 w3 ⟨gd, rfl, hd, hb⟩; replace B := Lib.hid (B.out.step' hb); have HD := Lib.hid hd; clear hb hd)
        | (go_at_call 22; refine (HROU.out gd _ (HT.out.step (Z8.out.step' B.out)) (RRR.out.step B.out) (rw_d HD.out)).mono ?_; rintro e4 w4 ⟨rfl, hb⟩; replace B := Lib.hid (B.out.step' hb); clear hb))
    all_goals
      go_wp2_with fail
      go_meet
      exact ⟨rfl, rfl, B.out⟩
  case rest =>
    obtain ⟨rfl, rfl, hb9⟩ := hcut
    replace S1 := Lib.hid (S1.out.step hb9)
    replace S2 := Lib.hid (S2.out.step hb9)
    replace Q2 := Lib.hid (Q2.out.step hb9)
    replace RRR := Lib.hid (RRR.out.step hb9)
    have Z9 := Lib.hid (Z8.out.step' hb9)
    clear hb9 KSS B HROU Z8
    generalize wc = w9 at *
    obtain ⟨q0, q1, q2, q3, q4, q5, qz⟩ := blk_ro Q2.out
    simp only at q1 q5
    have KSS : Hid (∀ w', Below w9.heap.size w9 w' → w'.cell? ⟨gr, 0, none⟩ = some (.string R50.sp) ∧ w'.cell? ⟨gr, 1, none⟩ = some (.slice (some ⟨go, 0, none⟩) 1 1) ∧ w'.cell? ⟨gr, 2, none⟩ = some (.bool R50.ha) ∧ w'.cell? ⟨gr, 3, none⟩ = some (.int .i64 R50.ep) ∧ w'.cell? ⟨gr, 4, none⟩ = some (.int .i64 R50.ver) ∧ w'.cell? ⟨gr, 5, none⟩ = some (.slice (some ⟨gc, 0, none⟩) 2 2)) := Lib.hid fun w' hb => ⟨(hb.cell (p := ⟨gr, 0, none⟩) Q2.out.lt).trans q0, (hb.cell (p := ⟨gr, 1, none⟩) Q2.out.lt).trans q1, (hb.cell (p := ⟨gr, 2, none⟩) Q2.out.lt).trans q2, (hb.cell (p := ⟨gr, 3, none⟩) Q2.out.lt).trans q3, (hb.cell (p := ⟨gr, 4, none⟩) Q2.out.lt).trans q4, (hb.cell (p := ⟨gr, 5, none⟩) Q2.out.lt).trans q5⟩
    have OW1 : Hid (∀ wr, Below w9.heap.size w9 wr → Calls Tryz.prog 24 #[rval (⟨some ⟨go, 0, none⟩, 1, 1, some ⟨gc, 0, none⟩, 2, 2⟩ : RA) R50, .int .i64 1, .string k10] wr fun e w' => e = .returned (.bool true) ∧ Below wr.heap.size wr w') := Lib.hid fun wr hb => by
      have := owns_any R50 (⟨some ⟨go, 0, none⟩, 1, 1, some ⟨gc, 0, none⟩, 2, 2⟩ : RA) 1 k10 wr (RRR.out.step hb)
      rw [owns_10] at this
      exact this
    have OW0 : Hid (∀ wr, Below w9.heap.size w9 wr → Calls Tryz.prog 24 #[rval (⟨some ⟨go, 0, none⟩, 1, 1, some ⟨gc, 0, none⟩, 2, 2⟩ : RA) R50, .int .i64 0, .string k10] wr fun e w' => e = .returned (.bool false) ∧ Below wr.heap.size wr w') := Lib.hid fun wr hb => by
      have := owns_any R50 (⟨some ⟨go, 0, none⟩, 1, 1, some ⟨gc, 0, none⟩, 2, 2⟩ : RA) 0 k10 wr (RRR.out.step hb)
      rw [owns_10'] at this
      exact this
    have CK0 : Hid (∀ wr, Below w9.heap.size w9 wr → Calls Tryz.prog 29 #[rval (⟨some ⟨go, 0, none⟩, 1, 1, some ⟨gc, 0, none⟩, 2, 2⟩ : RA) R50, .int .i64 0, .int .i64 1, .int .i64 2] wr fun e w' => e = .returned (.int .i64 0) ∧ Below wr.heap.size wr w') := Lib.hid fun wr hb => by
      have := check_any R50 (⟨some ⟨go, 0, none⟩, 1, 1, some ⟨gc, 0, none⟩, 2, 2⟩ : RA) 0 1 2 wr (RRR.out.step hb)
      rw [chk_0] at this
      exact this
    have CK1 : Hid (∀ wr, Below w9.heap.size w9 wr → Calls Tryz.prog 29 #[rval (⟨some ⟨go, 0, none⟩, 1, 1, some ⟨gc, 0, none⟩, 2, 2⟩ : RA) R50, .int .i64 1, .int .i64 1, .int .i64 2] wr fun e w' => e = .returned (.int .i64 27) ∧ Below wr.heap.size wr w') := Lib.hid fun wr hb => by
      have := check_any R50 (⟨some ⟨go, 0, none⟩, 1, 1, some ⟨gc, 0, none⟩, 2, 2⟩ : RA) 1 1 2 wr (RRR.out.step hb)
      rw [chk_1] at this
      exact this
    clear q0 q1 q2 q3 q4 q5 qz
    go_upto_region 8 with fail
    have B := Lib.hid ((Below.refl w9.heap.size w9).drew)
    refine wp_region_noPanic ?_
    refine wp_region_held_drew (S := (fun w' => w'.cell? ⟨gr, 0, none⟩ = some (.string R50.sp) ∧ w'.cell? ⟨gr, 1, none⟩ = some (.slice (some ⟨go, 0, none⟩) 1 1) ∧ w'.cell? ⟨gr, 2, none⟩ = some (.bool R50.ha) ∧ w'.cell? ⟨gr, 3, none⟩ = some (.int .i64 R50.ep) ∧ w'.cell? ⟨gr, 4, none⟩ = some (.int .i64 R50.ver) ∧ w'.cell? ⟨gr, 5, none⟩ = some (.slice (some ⟨gc, 0, none⟩) 2 2))) (by kernel_rfl) ?_ (fun hHeld => ?_)
    · (try dsimp only); exact KSS.out _ B.out
    generalize w9.drew = v0 at *
    refine wpAnyH_take (i := 0) (v := ?_) (take_at rfl) (by kernel_rfl) (by kernel_rfl) (by kernel_rfl) (fun _ _ _ h => h) (Or.inl ⟨by rfl, ?_⟩) (by assumption) ?_
    rotate_left
    · intro w' hSw; (try dsimp only at hSw); go_simp; (try with_reducible rfl)
    (try simp only [Act.put, List.setIfInBounds_toArray, List.set_cons_zero, List.set_cons_succ])
    refine wpAnyH_ready (rs := [1]) (by kernel_rfl) (by simp) ?_
    refine AllReadyH.cons (take_at rfl) (fun K hK => ?_) AllReadyH.nil
    go_simp
    change K _ (v0.alloc (Obj.cells (flat recN [1]).toArray 3))
    have G1 : Hid (Blk (v0.alloc (Obj.cells (flat recN [1]).toArray 3)) v0.heap.size 3 (flat recN [1]).toArray) := Blk.new_at rfl
    replace B := Lib.hid (B.out.alloc B.out.size (Obj.cells (flat recN [1]).toArray 3))
    generalize v0.alloc (Obj.cells (flat recN [1]).toArray 3) = v1 at *
    generalize v0.heap.size = g1 at *
    refine hK.out _ _ ?_ (fun hHeld2 => ?_)
    · (try dsimp only); exact KSS.out _ B.out
    clear hK K hHeld
    have hHeld := hHeld2
    clear hHeld2
    (try simp only [Act.put, List.setIfInBounds_toArray, List.set_cons_zero, List.set_cons_succ])
    refine wpAnyH_ready (rs := [2]) (by kernel_rfl) (by simp) ?_
    refine AllReadyH.cons (take_at rfl) (fun K hK => ?_) AllReadyH.nil
    go_simp
    refine (equalN_any [1] A1 (some ⟨g1, 0, none⟩) 1 c1 1 v1 (S1.out.step B.out) (srn_list G1.out rfl) (by omega)).mono ?_
    rintro e3 v2 ⟨rfl, hb⟩
    replace B := Lib.hid (B.out.step' hb)
    clear hb
    (try go_wp2_with fail)
    refine hK.out _ _ ?_ (fun hHeld2 => ?_)
    · (try dsimp only); exact KSS.out _ B.out
    clear hK K hHeld
    have hHeld := hHeld2
    clear hHeld2
    (try simp only [Act.put, List.setIfInBounds_toArray, List.set_cons_zero, List.set_cons_succ])
    refine wpAnyH_take (i := 3) (v := ?_) (take_at rfl) (by kernel_rfl) (by kernel_rfl) (by kernel_rfl) (fun _ _ _ h => h) (Or.inl ⟨by rfl, ?_⟩) (by assumption) ?_
    rotate_left
    · intro w' hSw; (try dsimp only at hSw); go_simp; (try with_reducible rfl)
    (try simp only [Act.put, List.setIfInBounds_toArray, List.set_cons_zero, List.set_cons_succ])
    refine wpAnyH_take (i := 4) (v := ?_) (take_at rfl) (by kernel_rfl) (by kernel_rfl) (by kernel_rfl) (fun _ _ _ h => h) (Or.inl ⟨by rfl, ?_⟩) (by assumption) ?_
    rotate_left
    · intro w' hSw; (try dsimp only at hSw); go_simp; (try with_reducible rfl)
    (try simp only [Act.put, List.setIfInBounds_toArray, List.set_cons_zero, List.set_cons_succ])
    refine wpAnyH_ready (rs := [5]) (by kernel_rfl) (by simp) ?_
    refine AllReadyH.cons (take_at rfl) (fun K hK => ?_) AllReadyH.nil
    go_simp
    change K _ (v2.alloc (Obj.cells (flat recN [0, 1]).toArray 3))
    have G2 : Hid (Blk (v2.alloc (Obj.cells (flat recN [0, 1]).toArray 3)) v2.heap.size 3 (flat recN [0, 1]).toArray) := Blk.new_at rfl
    replace B := Lib.hid (B.out.alloc B.out.size (Obj.cells (flat recN [0, 1]).toArray 3))
    generalize v2.alloc (Obj.cells (flat recN [0, 1]).toArray 3) = v3 at *
    generalize v2.heap.size = g2 at *
    refine hK.out _ _ ?_ (fun hHeld2 => ?_)
    · (try dsimp only); exact KSS.out _ B.out
    clear hK K hHeld
    have hHeld := hHeld2
    clear hHeld2
    (try simp only [Act.put, List.setIfInBounds_toArray, List.set_cons_zero, List.set_cons_succ])
    refine wpAnyH_ready (rs := [6]) (by kernel_rfl) (by simp) ?_
    refine AllReadyH.cons (take_at rfl) (fun K hK => ?_) AllReadyH.nil
    go_simp
    refine (equalN_any [0, 1] A2 (some ⟨g2, 0, none⟩) 2 c2 2 v3 (S2.out.step B.out) (srn_list G2.out rfl) (by omega)).mono ?_
    rintro e3 v4 ⟨rfl, hb⟩
    replace B := Lib.hid (B.out.step' hb)
    clear hb
    (try go_wp2_with fail)
    refine hK.out _ _ ?_ (fun hHeld2 => ?_)
    · (try dsimp only); exact KSS.out _ B.out
    clear hK K hHeld
    have hHeld := hHeld2
    clear hHeld2
    (try simp only [Act.put, List.setIfInBounds_toArray, List.set_cons_zero, List.set_cons_succ])
    refine wpAnyH_take (i := 7) (v := ?_) (take_at rfl) (by kernel_rfl) (by kernel_rfl) (by kernel_rfl) (fun _ _ _ h => h) (Or.inl ⟨by rfl, ?_⟩) (by assumption) ?_
    rotate_left
    · intro w' hSw; (try dsimp only at hSw); go_simp; (try with_reducible rfl)
    (try simp only [Act.put, List.setIfInBounds_toArray, List.set_cons_zero, List.set_cons_succ])
    refine wpAnyH_take (i := 8) (v := ?_) (take_at rfl) (by kernel_rfl) (by kernel_rfl) (by kernel_rfl) (fun _ _ _ h => h) (Or.inl ⟨by rfl, ?_⟩) (by assumption) ?_
    rotate_left
    · intro w' hSw; (try dsimp only at hSw); go_simp; (try with_reducible rfl)
    (try simp only [Act.put, List.setIfInBounds_toArray, List.set_cons_zero, List.set_cons_succ])
    refine wpAnyH_take (i := 9) (v := ?_) (take_at rfl) (by kernel_rfl) (by kernel_rfl) (by kernel_rfl) (fun _ _ _ h => h) (Or.inl ⟨by rfl, ?_⟩) (by assumption) ?_
    rotate_left
    · intro w' hSw; (try dsimp only at hSw); go_simp; (try with_reducible rfl)
    (try simp only [Act.put, List.setIfInBounds_toArray, List.set_cons_zero, List.set_cons_succ])
    refine wpAnyH_take (i := 10) (v := ?_) (take_at rfl) (by kernel_rfl) (by kernel_rfl) (by kernel_rfl) (fun _ _ _ h => h) (Or.inl ⟨by rfl, ?_⟩) (by assumption) ?_
    rotate_left
    · intro w' hSw; (try dsimp only at hSw); go_simp; (try with_reducible rfl)
    (try simp only [Act.put, List.setIfInBounds_toArray, List.set_cons_zero, List.set_cons_succ])
    refine wpAnyH_take (i := 11) (v := ?_) (take_at rfl) (by kernel_rfl) (by kernel_rfl) (by kernel_rfl) (fun _ _ _ h => h) (Or.inl ⟨by rfl, ?_⟩) (by assumption) ?_
    rotate_left
    · intro w' hSw; (try dsimp only at hSw); go_simp; (try with_reducible rfl)
    (try simp only [Act.put, List.setIfInBounds_toArray, List.set_cons_zero, List.set_cons_succ])
    refine wpAnyH_take (i := 12) (v := ?_) (take_at rfl) (by kernel_rfl) (by kernel_rfl) (by kernel_rfl) (fun _ _ _ h => h) (Or.inl ⟨by rfl, ?_⟩) (by assumption) ?_
    rotate_left
    · intro w' hSw; (try dsimp only at hSw); go_simp; (try with_reducible rfl)
    (try simp only [Act.put, List.setIfInBounds_toArray, List.set_cons_zero, List.set_cons_succ])
    refine wpAnyH_take (i := 13) (v := ?_) (take_at rfl) (by kernel_rfl) (by kernel_rfl) (by kernel_rfl) (fun _ _ _ h => h) (Or.inl ⟨by rfl, ?_⟩) (by assumption) ?_
    rotate_left
    · intro w' hSw; (try dsimp only at hSw); go_simp; (try with_reducible rfl)
    (try simp only [Act.put, List.setIfInBounds_toArray, List.set_cons_zero, List.set_cons_succ])
    refine wpAnyH_take (i := 14) (v := ?_) (take_at rfl) (by kernel_rfl) (by kernel_rfl) (by kernel_rfl) (fun _ _ _ h => h) (Or.inl ⟨by rfl, ?_⟩) (by assumption) ?_
    rotate_left
    · intro w' hSw; (try dsimp only at hSw); go_simp; (try with_reducible rfl)
    (try simp only [Act.put, List.setIfInBounds_toArray, List.set_cons_zero, List.set_cons_succ])
    refine wpAnyH_take (i := 15) (v := ?_) (take_at rfl) (by kernel_rfl) (by kernel_rfl) (by kernel_rfl) (fun _ _ _ h => h) (Or.inl ⟨by rfl, ?_⟩) (by assumption) ?_
    rotate_left
    · intro w' hSw; (try dsimp only at hSw); go_simp; (try with_reducible rfl)
    (try simp only [Act.put, List.setIfInBounds_toArray, List.set_cons_zero, List.set_cons_succ])
    refine wpAnyH_take (i := 16) (v := ?_) (take_at rfl) (by kernel_rfl) (by kernel_rfl) (by kernel_rfl) (fun _ _ _ h => h) (Or.inl ⟨by rfl, ?_⟩) (by assumption) ?_
    rotate_left
    · intro w' hSw; (try dsimp only at hSw); go_simp; (try with_reducible rfl)
    (try simp only [Act.put, List.setIfInBounds_toArray, List.set_cons_zero, List.set_cons_succ])
    refine wpAnyH_take (i := 17) (v := ?_) (take_at rfl) (by kernel_rfl) (by kernel_rfl) (by kernel_rfl) (fun _ _ _ h => h) (Or.inl ⟨by rfl, ?_⟩) (by assumption) ?_
    rotate_left
    · intro w' hSw; (try dsimp only at hSw); go_simp; (try with_reducible rfl)
    (try simp only [Act.put, List.setIfInBounds_toArray, List.set_cons_zero, List.set_cons_succ])
    refine wpAnyH_take (i := 18) (v := ?_) (take_at rfl) (by kernel_rfl) (by kernel_rfl) (by kernel_rfl) (fun _ _ _ h => h) (Or.inl ⟨by rfl, ?_⟩) (by assumption) ?_
    rotate_left
    · intro w' hSw; (try dsimp only at hSw); go_simp; (try with_reducible rfl)
    (try simp only [Act.put, List.setIfInBounds_toArray, List.set_cons_zero, List.set_cons_succ])
    refine wpAnyH_ready (rs := [19]) (by kernel_rfl) (by simp) ?_
    refine AllReadyH.cons (take_at rfl) (fun K hK => ?_) AllReadyH.nil
    go_simp
    refine (OW1.out _ B.out).mono ?_
    rintro e3 v5 ⟨rfl, hb⟩
    replace B := Lib.hid (B.out.step' hb)
    clear hb
    (try go_wp2_with fail)
    refine hK.out _ _ ?_ (fun hHeld2 => ?_)
    · (try dsimp only); exact KSS.out _ B.out
    clear hK K hHeld
    have hHeld := hHeld2
    clear hHeld2
    (try simp only [Act.put, List.setIfInBounds_toArray, List.set_cons_zero, List.set_cons_succ])
    refine wpAnyH_take (i := 20) (v := ?_) (take_at rfl) (by kernel_rfl) (by kernel_rfl) (by kernel_rfl) (fun _ _ _ h => h) (Or.inl ⟨by rfl, ?_⟩) (by assumption) ?_
    rotate_left
    · intro w' hSw; (try dsimp only at hSw); go_simp; (try with_reducible rfl)
    (try simp only [Act.put, List.setIfInBounds_toArray, List.set_cons_zero, List.set_cons_succ])
    refine wpAnyH_take (i := 21) (v := ?_) (take_at rfl) (by kernel_rfl) (by kernel_rfl) (by kernel_rfl) (fun _ _ _ h => h) (Or.inl ⟨by rfl, ?_⟩) (by assumption) ?_
    rotate_left
    · intro w' hSw; (try dsimp only at hSw); go_simp; (try with_reducible rfl)
    (try simp only [Act.put, List.setIfInBounds_toArray, List.set_cons_zero, List.set_cons_succ])
    refine wpAnyH_take (i := 22) (v := ?_) (take_at rfl) (by kernel_rfl) (by kernel_rfl) (by kernel_rfl) (fun _ _ _ h => h) (Or.inl ⟨by rfl, ?_⟩) (by assumption) ?_
    rotate_left
    · intro w' hSw; (try dsimp only at hSw); go_simp; (try with_reducible rfl)
    (try simp only [Act.put, List.setIfInBounds_toArray, List.set_cons_zero, List.set_cons_succ])
    refine wpAnyH_take (i := 23) (v := ?_) (take_at rfl) (by kernel_rfl) (by kernel_rfl) (by kernel_rfl) (fun _ _ _ h => h) (Or.inl ⟨by rfl, ?_⟩) (by assumption) ?_
    rotate_left
    · intro w' hSw; (try dsimp only at hSw); go_simp; (try with_reducible rfl)
    (try simp only [Act.put, List.setIfInBounds_toArray, List.set_cons_zero, List.set_cons_succ])
    refine wpAnyH_ready (rs := [24]) (by kernel_rfl) (by simp) ?_
    refine AllReadyH.cons (take_at rfl) (fun K hK => ?_) AllReadyH.nil
    go_simp
    refine (OW0.out _ B.out).mono ?_
    rintro e3 v6 ⟨rfl, hb⟩
    replace B := Lib.hid (B.out.step' hb)
    clear hb
    (try go_wp2_with fail)
    refine hK.out _ _ ?_ (fun hHeld2 => ?_)
    · (try dsimp only); exact KSS.out _ B.out
    clear hK K hHeld
    have hHeld := hHeld2
    clear hHeld2
    (try simp only [Act.put, List.setIfInBounds_toArray, List.set_cons_zero, List.set_cons_succ])
    refine wpAnyH_take (i := 25) (v := ?_) (take_at rfl) (by kernel_rfl) (by kernel_rfl) (by kernel_rfl) (fun _ _ _ h => h) (Or.inl ⟨by rfl, ?_⟩) (by assumption) ?_
    rotate_left
    · intro w' hSw; (try dsimp only at hSw); go_simp; (try with_reducible rfl)
    (try simp only [Act.put, List.setIfInBounds_toArray, List.set_cons_zero, List.set_cons_succ])
    refine wpAnyH_take (i := 26) (v := ?_) (take_at rfl) (by kernel_rfl) (by kernel_rfl) (by kernel_rfl) (fun _ _ _ h => h) (Or.inl ⟨by rfl, ?_⟩) (by assumption) ?_
    rotate_left
    · intro w' hSw; (try dsimp only at hSw); go_simp; (try with_reducible rfl)
    (try simp only [Act.put, List.setIfInBounds_toArray, List.set_cons_zero, List.set_cons_succ])
    refine wpAnyH_take (i := 27) (v := ?_) (take_at rfl) (by kernel_rfl) (by kernel_rfl) (by kernel_rfl) (fun _ _ _ h => h) (Or.inl ⟨by rfl, ?_⟩) (by assumption) ?_
    rotate_left
    · intro w' hSw; (try dsimp only at hSw); go_simp; (try with_reducible rfl)
    (try simp only [Act.put, List.setIfInBounds_toArray, List.set_cons_zero, List.set_cons_succ])
    refine wpAnyH_take (i := 28) (v := ?_) (take_at rfl) (by kernel_rfl) (by kernel_rfl) (by kernel_rfl) (fun _ _ _ h => h) (Or.inl ⟨by rfl, ?_⟩) (by assumption) ?_
    rotate_left
    · intro w' hSw; (try dsimp only at hSw); go_simp; (try with_reducible rfl)
    (try simp only [Act.put, List.setIfInBounds_toArray, List.set_cons_zero, List.set_cons_succ])
    refine wpAnyH_ready (rs := [29]) (by kernel_rfl) (by simp) ?_
    refine AllReadyH.cons (take_at rfl) (fun K hK => ?_) AllReadyH.nil
    go_simp
    refine (CK0.out _ B.out).mono ?_
    rintro e3 v7 ⟨rfl, hb⟩
    replace B := Lib.hid (B.out.step' hb)
    clear hb
    (try go_wp2_with fail)
    refine hK.out _ _ ?_ (fun hHeld2 => ?_)
    · (try dsimp only); exact KSS.out _ B.out
    clear hK K hHeld
    have hHeld := hHeld2
    clear hHeld2
    (try simp only [Act.put, List.setIfInBounds_toArray, List.set_cons_zero, List.set_cons_succ])
    refine wpAnyH_take (i := 30) (v := ?_) (take_at rfl) (by kernel_rfl) (by kernel_rfl) (by kernel_rfl) (fun _ _ _ h => h) (Or.inl ⟨by rfl, ?_⟩) (by assumption) ?_
    rotate_left
    · intro w' hSw; (try dsimp only at hSw); go_simp; (try with_reducible rfl)
    (try simp only [Act.put, List.setIfInBounds_toArray, List.set_cons_zero, List.set_cons_succ])
    refine wpAnyH_take (i := 31) (v := ?_) (take_at rfl) (by kernel_rfl) (by kernel_rfl) (by kernel_rfl) (fun _ _ _ h => h) (Or.inl ⟨by rfl, ?_⟩) (by assumption) ?_
    rotate_left
    · intro w' hSw; (try dsimp only at hSw); go_simp; (try with_reducible rfl)
    (try simp only [Act.put, List.setIfInBounds_toArray, List.set_cons_zero, List.set_cons_succ])
    refine wpAnyH_take (i := 32) (v := ?_) (take_at rfl) (by kernel_rfl) (by kernel_rfl) (by kernel_rfl) (fun _ _ _ h => h) (Or.inl ⟨by rfl, ?_⟩) (by assumption) ?_
    rotate_left
    · intro w' hSw; (try dsimp only at hSw); go_simp; (try with_reducible rfl)
    (try simp only [Act.put, List.setIfInBounds_toArray, List.set_cons_zero, List.set_cons_succ])
    refine wpAnyH_take (i := 33) (v := ?_) (take_at rfl) (by kernel_rfl) (by kernel_rfl) (by kernel_rfl) (fun _ _ _ h => h) (Or.inl ⟨by rfl, ?_⟩) (by assumption) ?_
    rotate_left
    · intro w' hSw; (try dsimp only at hSw); go_simp; (try with_reducible rfl)
    (try simp only [Act.put, List.setIfInBounds_toArray, List.set_cons_zero, List.set_cons_succ])
    refine wpAnyH_ready (rs := [34]) (by kernel_rfl) (by simp) ?_
    refine AllReadyH.cons (take_at rfl) (fun K hK => ?_) AllReadyH.nil
    go_simp
    refine (CK1.out _ B.out).mono ?_
    rintro e3 v8 ⟨rfl, hb⟩
    replace B := Lib.hid (B.out.step' hb)
    clear hb
    (try go_wp2_with fail)
    refine hK.out _ _ ?_ (fun hHeld2 => ?_)
    · (try dsimp only); exact KSS.out _ B.out
    clear hK K hHeld
    have hHeld := hHeld2
    clear hHeld2
    (try simp only [Act.put, List.setIfInBounds_toArray, List.set_cons_zero, List.set_cons_succ])
    refine wpAnyH_take (i := 35) (v := ?_) (take_at rfl) (by kernel_rfl) (by kernel_rfl) (by kernel_rfl) (fun _ _ _ h => h) (Or.inl ⟨by rfl, ?_⟩) (by assumption) ?_
    rotate_left
    · intro w' hSw; (try dsimp only at hSw); go_simp; (try with_reducible rfl)
    (try simp only [Act.put, List.setIfInBounds_toArray, List.set_cons_zero, List.set_cons_succ])
    refine wpAnyH_take (i := 36) (v := ?_) (take_at rfl) (by kernel_rfl) (by kernel_rfl) (by kernel_rfl) (fun _ _ _ h => h) (Or.inl ⟨by rfl, ?_⟩) (by assumption) ?_
    rotate_left
    · intro w' hSw; (try dsimp only at hSw); go_simp; (try with_reducible rfl)
    (try simp only [Act.put, List.setIfInBounds_toArray, List.set_cons_zero, List.set_cons_succ])
    refine wpAnyH_take (i := 37) (v := ?_) (take_at rfl) (by kernel_rfl) (by kernel_rfl) (by kernel_rfl) (fun _ _ _ h => h) (Or.inl ⟨by rfl, ?_⟩) (by assumption) ?_
    rotate_left
    · intro w' hSw; (try dsimp only at hSw); go_simp; (try with_reducible rfl)
    (try simp only [Act.put, List.setIfInBounds_toArray, List.set_cons_zero, List.set_cons_succ])
    refine wpAnyH_take (i := 38) (v := ?_) (take_at rfl) (by kernel_rfl) (by kernel_rfl) (by kernel_rfl) (fun _ _ _ h => h) (Or.inl ⟨by rfl, ?_⟩) (by assumption) ?_
    rotate_left
    · intro w' hSw; (try dsimp only at hSw); go_simp; (try with_reducible rfl)
    (try simp only [Act.put, List.setIfInBounds_toArray, List.set_cons_zero, List.set_cons_succ])
    refine wpAnyH_ready (rs := [39]) (by kernel_rfl) (by simp) ?_
    refine AllReadyH.cons (take_at rfl) (fun K hK => ?_) AllReadyH.nil
    go_simp
    refine (doc50_any 3 v8).mono ?_
    rintro e3 v9 ⟨d1, rfl, hd, hb⟩
    have D1 := Lib.hid hd
    clear hd
    replace B := Lib.hid (B.out.step' hb)
    clear hb
    (try go_wp2_with fail)
    refine hK.out _ _ ?_ (fun hHeld2 => ?_)
    · (try dsimp only); exact KSS.out _ B.out
    clear hK K hHeld
    have hHeld := hHeld2
    clear hHeld2
    (try simp only [Act.put, List.setIfInBounds_toArray, List.set_cons_zero, List.set_cons_succ])
    refine wpAnyH_ready (rs := [40]) (by kernel_rfl) (by simp) ?_
    refine AllReadyH.cons (take_at rfl) (fun K hK => ?_) AllReadyH.nil
    go_simp
    refine (doc50_any 11 v9).mono ?_
    rintro e3 v10 ⟨d2, rfl, hd, hb⟩
    have D2 := Lib.hid hd
    replace D1 := Lib.hid (D1.out.step hb)
    clear hd
    replace B := Lib.hid (B.out.step' hb)
    clear hb
    (try go_wp2_with fail)
    refine hK.out _ _ ?_ (fun hHeld2 => ?_)
    · (try dsimp only); exact KSS.out _ B.out
    clear hK K hHeld
    have hHeld := hHeld2
    clear hHeld2
    (try simp only [Act.put, List.setIfInBounds_toArray, List.set_cons_zero, List.set_cons_succ])
    refine wpAnyH_ready (rs := [41]) (by kernel_rfl) (by simp) ?_
    refine AllReadyH.cons (take_at rfl) (fun K hK => ?_) AllReadyH.nil
    go_simp
    change K _ (v10.alloc (Obj.cells (flat recV [(cD d1, vD 3), (cD d2, vD 11)]).toArray 28))
    have G3 : Hid (Blk (v10.alloc (Obj.cells (flat recV [(cD d1, vD 3), (cD d2, vD 11)]).toArray 28)) v10.heap.size 28 (flat recV [(cD d1, vD 3), (cD d2, vD 11)]).toArray) := Blk.new_at rfl
    replace B := Lib.hid (B.out.alloc B.out.size (Obj.cells (flat recV [(cD d1, vD 3), (cD d2, vD 11)]).toArray 28))
    replace D1 := Lib.hid (D1.out.alloc (Obj.cells (flat recV [(cD d1, vD 3), (cD d2, vD 11)]).toArray 28))
    replace D2 := Lib.hid (D2.out.alloc (Obj.cells (flat recV [(cD d1, vD 3), (cD d2, vD 11)]).toArray 28))
    generalize v10.alloc (Obj.cells (flat recV [(cD d1, vD 3), (cD d2, vD 11)]).toArray 28) = v11 at *
    generalize v10.heap.size = g3 at *
    refine hK.out _ _ ?_ (fun hHeld2 => ?_)
    · (try dsimp only); exact KSS.out _ B.out
    clear hK K hHeld
    have hHeld := hHeld2
    clear hHeld2
    (try simp only [Act.put, List.setIfInBounds_toArray, List.set_cons_zero, List.set_cons_succ])
    refine wpAnyH_ready (rs := [42]) (by kernel_rfl) (by simp) ?_
    refine AllReadyH.cons (take_at rfl) (fun K hK => ?_) AllReadyH.nil
    have HON := own_any R50 (⟨some ⟨go, 0, none⟩, 1, 1, some ⟨gc, 0, none⟩, 2, 2⟩ : RA) 1 [(cD d1, vD 3), (cD d2, vD 11)] (some ⟨g3, 0, none⟩) 2 2 v11 (HT.out.step (Z9.out.step' B.out)) (RRR.out.step B.out) (slr_list G3.out rfl (by show 2 * 80 ≤ reach; decide) (by intro p hp; simp only [List.mem_cons, List.not_mem_nil, or_false] at hp; rcases hp with rfl | rfl <;> first | exact rw_d D1.out | exact rw_d D2.out)) (by decide) (by omega)
    rw [show [(cD d1, vD 3), (cD d2, vD 11)].map Prod.snd = [vD 3, vD 11] from rfl, ownl_50] at HON
    have HO := Lib.hid HON
    clear HON
    go_simp
    refine (HO.out).mono ?_
    rintro e3 v12 ⟨A9, m9, c9, qs, rfl, hq, hsl, hb⟩
    obtain rfl : m9 = 1 := by have h1 := hsl.sr.ln; have h2 := congrArg List.length hq; simp at h2; omega
    clear hq hsl
    replace B := Lib.hid (B.out.step' hb)
    clear hb
    (try go_wp2_with fail)
    refine hK.out _ _ ?_ (fun hHeld2 => ?_)
    · (try dsimp only); exact KSS.out _ B.out
    clear hK K hHeld
    have hHeld := hHeld2
    clear hHeld2
    (try simp only [Act.put, List.setIfInBounds_toArray, List.set_cons_zero, List.set_cons_succ])
    refine wpAnyH_take (i := 43) (v := ?_) (take_at rfl) (by kernel_rfl) (by kernel_rfl) (by kernel_rfl) (fun _ _ _ h => h) (Or.inl ⟨by rfl, ?_⟩) (by assumption) ?_
    rotate_left
    · intro w' hSw; (try dsimp only at hSw); go_simp; (try with_reducible rfl)
    (try simp only [Act.put, List.setIfInBounds_toArray, List.set_cons_zero, List.set_cons_succ])
    refine wpAnyH_take (i := 44) (v := ?_) (take_at rfl) (by kernel_rfl) (by kernel_rfl) (by kernel_rfl) (fun _ _ _ h => h) (Or.inl ⟨by rfl, ?_⟩) (by assumption) ?_
    rotate_left
    · intro w' hSw; (try dsimp only at hSw); go_simp; (try with_reducible rfl)
    (try simp only [Act.put, List.setIfInBounds_toArray, List.set_cons_zero, List.set_cons_succ])
    refine wpAnyH_take (i := 45) (v := ?_) (take_at rfl) (by kernel_rfl) (by kernel_rfl) (by kernel_rfl) (fun _ _ _ h => h) (Or.inl ⟨by rfl, ?_⟩) (by assumption) ?_
    rotate_left
    · intro w' hSw; (try dsimp only at hSw); go_simp; (try with_reducible rfl)
    (try simp only [Act.put, List.setIfInBounds_toArray, List.set_cons_zero, List.set_cons_succ])
    refine wpAnyH_take (i := 46) (v := ?_) (take_at rfl) (by kernel_rfl) (by kernel_rfl) (by kernel_rfl) (fun _ _ _ h => h) (Or.inl ⟨by rfl, ?_⟩) (by assumption) ?_
    rotate_left
    · intro w' hSw; (try dsimp only at hSw); go_simp; (try with_reducible rfl)
    (try simp only [Act.put, List.setIfInBounds_toArray, List.set_cons_zero, List.set_cons_succ])
    refine wpAnyH_done (by kernel_rfl) ?_ _
    refine NoPanic.normal ?_
    all_goals
      go_wp2_with fail
      go_ret
      exact ⟨rfl, Z9.out.step' B.out⟩

end Go.Proofs.YtblepmmibhphhaaGreatDoor


/- The contract of chunks.named. -/
namespace Go.Proofs.YtblepmmibhphhaaGreatDoor
open Go.RowKit

/-- a document with one field, null -/
def nullN : Val := .mk 2 0 ByteArray.empty [] []
def docN (s : ByteArray) : Val := .mk 5 0 ByteArray.empty [] [.mk s nullN]
theorem sound_docN (s : ByteArray) : SoundV nameB (docN s) ↔ nameB s = true := by
  rw [SoundV_iff]
  constructor
  · rintro ⟨_, _, _, h⟩
    exact h.1 (.mk s nullN) (by simp [docN, Val.d])
  · intro h
    refine ⟨⟨.inr (.inr (.inr rfl)), .inr (.inr (.inr rfl)), .inr rfl, .inl rfl, by right; right; right; right; right; right; right; right; right; right; rfl⟩, fun y hy => by simp [docN, Val.l] at hy, fun f hf => ?_, ⟨fun f hf => ?_, by simp [docN, Val.d]⟩⟩
    · simp [docN, Val.d] at hf
      subst hf
      show SoundV nameB nullN
      rw [SoundV_iff]
      exact ⟨⟨.inr (.inr (.inr rfl)), .inr (.inr (.inr rfl)), .inr rfl, .inr rfl, .inr (.inl rfl)⟩, fun y hy => by simp [nullN, Val.l] at hy, fun f hf => by simp [nullN, Val.d] at hf, ⟨fun f hf => by simp [nullN, Val.d] at hf, by simp [nullN, Val.d]⟩⟩
    · simp [docN, Val.d] at hf
      subst hf
      exact h
theorem validV_docN (s : ByteArray) : validV (docN s) = nameB s := by
  have h1 : (docN s).size = 2 := by simp [docN, nullN, Val.size, sizeD, sizeF]
  have h2 : (docN s).height = 2 := by simp [docN, nullN, Val.height, heightD, heightF]
  unfold validV
  rw [h1, h2]
  cases h : nameB s
  · rw [soundB_false (by rw [sound_docN, h]; simp)]
    rfl
  · rw [soundB_true ((sound_docN s).2 h)]
    rfl
theorem rw_docN {w : World} {g : Nat} {s : ByteArray} (h : Blk w g 69 #[.string s, .int .i64 2, .int .i64 0, .string ⟨#[]⟩, .slice none 0 0, .slice none 0 0]) (hs : s.size ≤ reach) :
    RW w ⟨5, 0, ⟨#[]⟩, none, 0, 0, some ⟨g, 0, none⟩, 1, 1⟩ (docN s) := by
  refine RVs.shut ⟨rfl, rfl, rfl, by show 0 ≤ reach; exact Nat.zero_le _, rfl, Nat.le_refl _, by show 0 * 80 ≤ reach; decide, fun h => absurd h (Nat.lt_irrefl 0), rfl, Nat.le_refl _, by show 1 * 96 ≤ reach; decide, fun _ => ⟨g, 0, rfl, Ft.top, fun i f hf => ?_⟩⟩
  have hi : i = 0 := by
    have := (List.getElem?_eq_some_iff.1 hf).1
    simp [docN, Val.d] at this
    exact this
  subst hi
  simp [docN, Val.d] at hf
  subst hf
  refine ⟨by rw [h.cell]; rfl, hs, ⟨2, 0, ⟨#[]⟩, none, 0, 0, none, 0, 0⟩, ⟨?_, ?_, ?_, ?_, ?_⟩, ?_⟩
  iterate 5 rw [h.cell]; rfl
  exact RVs.shut ⟨rfl, rfl, rfl, by show 0 ≤ reach; exact Nat.zero_le _, rfl, Nat.le_refl _, by show 0 * 80 ≤ reach; decide, fun h => absurd h (Nat.lt_irrefl 0), rfl, Nat.le_refl _, by show 0 * 96 ≤ reach; decide, fun h => absurd h (Nat.lt_irrefl 0)⟩
end Go.Proofs.YtblepmmibhphhaaGreatDoor


/- The contract of chunks.Valid. Printed by gen_chvalid.py. -/
namespace Go.Proofs.YtblepmmibhphhaaGreatDoor
open Go.RowKit

theorem linkB_at {l : List Ch} {j : Nat} {x y : Ch} (hx : l[j]? = some x) (hy : l[j + 1]? = some y) : linkB (l.drop j) = ((y.lo.toList == x.hi.toList) && !(Op.bytesLess y.lo.toList x.lo.toList || y.lo.toList == x.lo.toList) && linkB (l.drop (j + 1))) := by
  rw [drop_of hx, drop_of hy, linkB]

end Go.Proofs.YtblepmmibhphhaaGreatDoor


/- The contract of the reference's Valid. Printed by gen_chvalid.py. -/
namespace Go.Proofs.YtblepmmibhphhaaGreatDoor
open Go.RowKit

set_option maxRecDepth 100000 in
set_option maxHeartbeats 1000000 in
theorem rvalid49_any (R : Ro) (a : RA) (w : World) (h : RR w a R) : Calls Tryz.prog 52 #[rval a R] w fun e w' => e = .returned (.int .i64 (routE R)) ∧ Below w.heap.size w w' := by
  obtain ⟨KA, kn, kc, CA, cn, cc⟩ := a
  have H := Lib.hid h
  have hn : Hid (cn = R.cs.length) := h.cs.ln
  have hcz : cn * 56 ≤ reach := h.cs.sz
  have hlc : cn ≤ cc := h.cs.sr.lc
  have hkn : cn ≤ 140737488355328 := by unfold reach at hcz; omega
  have HLC := Lib.hid hlc
  clear h hcz hlc
  have B0 : Hid (Blk (w.alloc (Obj.cells (rarr ⟨KA, kn, kc, CA, cn, cc⟩ R) 45)) w.heap.size 45 (rarr ⟨KA, kn, kc, CA, cn, cc⟩ R)) := Blk.new_at rfl
  have BE : Hid (Below w.heap.size w (w.alloc (Obj.cells (rarr ⟨KA, kn, kc, CA, cn, cc⟩ R) 45))) := (Below.refl _ _).alloc (Nat.le_refl _) _
  go_enter Tryz.func52, Tryz.ntmps52
  go_upto_region 1 with fail
  change (Code.region 1 _ _).wp _ _ _ (w.alloc (Obj.cells (rarr ⟨KA, kn, kc, CA, cn, cc⟩ R) 45))
  generalize w.alloc (Obj.cells (rarr ⟨KA, kn, kc, CA, cn, cc⟩ R) 45) = wa at *
  obtain ⟨q0, q1, q2, q3, q4, q5, qz⟩ := blk_ro B0.out
  simp only at q1 q5
  go_wp2_with fail
  clear q0 q1 q2 q3 q4 q5 qz
  refine (rname_any R.sp wa).mono ?_
  rintro e w1 ⟨rfl, rfl⟩
  have D0 := B0
  have DE := BE
  clear B0 BE
  cases hnm : nameB R.sp
  · have HF : Hid (routE R = 9) := by unfold Hid routE; rw [if_pos hnm]
    go_wp2_with fail
    go_ret
    exact ⟨by rw [HF.out]; rfl, DE.out⟩
  obtain ⟨q0, q1, q2, q3, q4, q5, qz⟩ := blk_ro D0.out
  simp only at q1 q5
  go_wp2_with fail
  clear q0 q1 q2 q3 q4 q5 qz
  refine (rshardkey_any R.ks R.ha KA kn kc w1 (H.out.ks.step DE.out)).mono ?_
  rintro e w2 ⟨rfl, hb2⟩
  have F0 := Lib.hid (D0.out.step hb2)
  have FE := Lib.hid (DE.out.step' hb2)
  clear hb2 D0 DE
  by_cases hke : keyE R.ks R.ha = 0
  rotate_left
  · have HF : Hid (routE R = keyE R.ks R.ha) := by unfold Hid routE; rw [if_neg (by simp [hnm]), if_pos hke]
    have hke' : (keyE R.ks R.ha != 0) = true := by simpa using hke
    go_wp2_with fail
    go_ret
    exact ⟨by rw [HF.out]; rfl, FE.out⟩
  have HV : Hid (routE R = if 64 < R.cs.length then 2 else if R.ep < 1 ∨ R.ver < 1 then 1 else if R.cs.any (badC R.ver) then 1 else if endsB R.cs = false then 4 else if linkB R.cs = false then 4 else 0) := by
    unfold Hid routE
    rw [if_neg (by simp [hnm]), if_neg (by simpa using hke)]
  rw [hke]
  clear hke hnm
  obtain ⟨q0, q1, q2, q3, q4, q5, qz⟩ := blk_ro F0.out
  simp only at q1 q5
  by_cases h64 : 64 < cn
  · have HF : Hid (routE R = 2) := by rw [Hid, HV.out, if_pos (by rw [← hn.out]; exact h64)]
    go_wp2_with fail
    go_ret
    exact ⟨by rw [HF.out]; rfl, FE.out⟩
  have HV1 : Hid (routE R = if R.ep < 1 ∨ R.ver < 1 then 1 else if R.cs.any (badC R.ver) then 1 else if endsB R.cs = false then 4 else if linkB R.cs = false then 4 else 0) := by rw [Hid, HV.out, if_neg (by rw [← hn.out]; exact h64)]
  clear HV
  by_cases hep : R.ep < 1
  · have HF : Hid (routE R = 1) := by rw [Hid, HV1.out, if_pos (.inl hep)]
    go_wp2_with fail
    go_ret
    exact ⟨by rw [HF.out]; rfl, FE.out⟩
  by_cases hve : R.ver < 1
  · have HF : Hid (routE R = 1) := by rw [Hid, HV1.out, if_pos (.inr hve)]
    go_wp2_with fail
    go_ret
    exact ⟨by rw [HF.out]; rfl, FE.out⟩
  have HV2 : Hid (routE R = if R.cs.any (badC R.ver) then 1 else if endsB R.cs = false then 4 else if linkB R.cs = false then 4 else 0) := by rw [Hid, HV1.out, if_neg (by omega)]
  clear HV1
  have HEP := Lib.hid hep
  have HVE := Lib.hid hve
  go_wp2_with fail
  clear q0 q1 q2 q3 q4 q5 qz hep hve
  go_loopw [4] (fun v wr => ∃ i : Nat, i ≤ cn ∧ v = .int .i64 i ∧ R.cs.any (badC R.ver) = (R.cs.drop i).any (badC R.ver) ∧ Blk wr w.heap.size 45 (rarr ⟨KA, kn, kc, CA, cn, cc⟩ R) ∧ Below w.heap.size w wr) (fun v _ => cn - (intOf v).toNat)
  case atStart => exact ⟨0, Nat.zero_le _, rfl, rfl, F0.out, FE.out⟩
  case round =>
    obtain ⟨i, hi, rfl, hany, hblk, hbel⟩ := hrel
    have HA := Lib.hid hany
    have HB := Lib.hid hbel
    have HK := Lib.hid hblk
    clear hany
    obtain ⟨q0, q1, q2, q3, q4, q5, qz⟩ := blk_ro hblk
    simp only at q1 q5
    have hNl := hblk.lt
    by_cases hlt : i < cn
    · obtain ⟨b, off, x, hA, hb, hx, e0, e1, e2, e3, e4⟩ := H.out.cs.sr.at5 hlt
      simp only at hA
      subst hA
      have HX : Hid ((R.cs.drop i).any (badC R.ver) = (badC R.ver x || (R.cs.drop (i + 1)).any (badC R.ver))) := by rw [Hid, drop_of hx]; rfl
      have g0 := (hbel.cell (p := ⟨b, off + i * 5, none⟩) hb).trans e0
      have g1 := (hbel.cell (p := ⟨b, off + i * 5 + 1, none⟩) hb).trans e1
      have g2 := (hbel.cell (p := ⟨b, off + i * 5 + 2, none⟩) hb).trans e2
      have g3 := (hbel.cell (p := ⟨b, off + i * 5 + 3, none⟩) hb).trans e3
      have g4 := (hbel.cell (p := ⟨b, off + i * 5 + 4, none⟩) hb).trans e4
      have hbw : b < wr.heap.size := by have := hbel.size; omega
      obtain ⟨xlo, xhi, xsh, xver, xju⟩ := x
      simp only at g0 g1 g2 g3 g4
      have HBA := Lib.hid (HB.out.alloc HB.out.size (Obj.cells #[.string xlo, .string xhi, .int .i64 xsh, .int .i64 xver, .bool xju] 58))
      have HKA := Lib.hid (HK.out.alloc (Obj.cells #[.string xlo, .string xhi, .int .i64 xsh, .int .i64 xver, .bool xju] 58))
      clear hx e0 e1 e2 e3 e4 hbel hblk
      by_cases ha : xsh < 0
      · have HF : Hid (routE R = 1) := by rw [Hid, HV2.out, if_pos (by rw [HA.out, HX.out]; unfold badC; rw [decide_eq_true ha]; simp)]
        go_wp2_with fail
        go_ret
        exact ⟨by rw [HF.out]; rfl, HBA.out⟩
      by_cases hb8 : 8 ≤ xsh
      · have HF : Hid (routE R = 1) := by rw [Hid, HV2.out, if_pos (by rw [HA.out, HX.out]; unfold badC; rw [decide_eq_true hb8, Bool.or_true]; rfl)]
        go_wp2_with fail
        go_ret
        exact ⟨by rw [HF.out]; rfl, HBA.out⟩
      by_cases hc1 : xver < 1
      · have HF : Hid (routE R = 1) := by rw [Hid, HV2.out, if_pos (by rw [HA.out, HX.out]; unfold badC; rw [decide_eq_true hc1, Bool.or_true]; rfl)]
        go_wp2_with fail
        go_ret
        exact ⟨by rw [HF.out]; rfl, HBA.out⟩
      by_cases hd : R.ver < xver
      · have HF : Hid (routE R = 1) := by rw [Hid, HV2.out, if_pos (by rw [HA.out, HX.out]; unfold badC; rw [decide_eq_true hd, Bool.or_true]; rfl)]
        go_wp2_with fail
        go_ret
        exact ⟨by rw [HF.out]; rfl, HBA.out⟩
      have HN : Hid (R.cs.any (badC R.ver) = (R.cs.drop (i + 1)).any (badC R.ver)) := by
        rw [Hid, HA.out, HX.out]
        unfold badC
        rw [decide_eq_false ha, decide_eq_false hb8, decide_eq_false hc1, decide_eq_false hd]
        rfl
      go_wp2_with fail
      go_roundw
      case rel => exact ⟨i + 1, by omega, by go_num, HN.out, HKA.out, HBA.out⟩
      case measure => simp [intOf]; omega
    · have HN : Hid (routE R = if endsB R.cs = false then 4 else if linkB R.cs = false then 4 else 0) := by
        rw [Hid, HV2.out, if_neg]
        rw [HA.out, List.drop_of_length_le (by rw [← hn.out]; omega)]
        simp
      clear hbel hblk HV2 HA
      obtain rfl : i = cn := by omega
      by_cases hz : i = 0
      · have HF : Hid (routE R = 4) := by
          have : R.cs = [] := List.eq_nil_of_length_eq_zero (by rw [← hn.out]; exact hz)
          rw [Hid, HN.out, if_pos (by rw [this]; rfl)]
        subst hz
        go_wp2_with fail
        go_ret
        exact ⟨by rw [HF.out]; rfl, HB.out⟩
      have hz0 : ((i : Int) == 0) = false := by simp; omega
      have hzi : (0 : Int) < (i : Int) := by omega
      obtain ⟨b, off, x, hA, hb, hx, e0, _, _, _, _⟩ := H.out.cs.sr.at5 (i := 0) (by show 0 < i; omega)
      simp only at hA
      subst hA
      have HX0 := Lib.hid hx
      have g0 := (HB.out.cell (p := ⟨b, off + 0 * 5, none⟩) hb).trans e0
      simp only [Nat.zero_mul, Nat.add_zero] at g0
      cases hlo : (x.lo.toList == [])
      · have HF : Hid (routE R = 4) := by
          rw [Hid, HN.out, if_pos]
          obtain ⟨c, r, hcr⟩ : ∃ c r, R.cs = c :: r := by
            cases hc : R.cs with
            | nil => rw [hc] at hx; cases hx
            | cons c r => exact ⟨c, r, rfl⟩
          rw [hcr] at hx ⊢
          simp at hx
          subst hx
          rw [endsB, hlo]
          rfl
        clear hx e0
        go_wp2_with fail
        go_ret
        exact ⟨by rw [HF.out]; rfl, HB.out⟩
      obtain ⟨b', off', y, hA, _, hy, _, e1, _, _, _⟩ := H.out.cs.sr.at5 (i := i - 1) (by show i - 1 < i; omega)
      simp only at hA
      injection hA with hA
      injection hA with hA1 hA2
      subst hA1 hA2
      have HY0 := Lib.hid hy
      have g1 := (HB.out.cell (p := ⟨b, off + (i - 1) * 5 + 1, none⟩) hb).trans e1
      have hw1 : IntKind.i64.wrap ((i : Int) - 1) = (i : Int) - 1 := by rw [IntKind.wrap_i64]; omega
      have hi1 : (0 : Int) ≤ (i : Int) - 1 := by omega
      have hi2 : (i : Int) - 1 < (i : Int) := by omega
      have hi3 : ((i : Int) - 1).toNat = i - 1 := by omega
      have HEN : Hid (endsB R.cs = (y.hi.toList == [])) := by
        obtain ⟨c, r, hcr⟩ : ∃ c r, R.cs = c :: r := by
          cases hc : R.cs with
          | nil => rw [hc] at hx; cases hx
          | cons c r => exact ⟨c, r, rfl⟩
        have hl := hn.out
        rw [hcr] at hx hy hl ⊢
        simp at hx
        subst hx
        have hyl : (c :: r).getLast? = some y := by rw [List.getLast?_eq_getElem?, ← hy, hl]
        rw [Hid, endsB, hlo, hyl]
        simp
      clear hx hy e0 e1
      cases hhi : (y.hi.toList == [])
      · have HF : Hid (routE R = 4) := by rw [Hid, HN.out, if_pos (by rw [HEN.out, hhi])]
        go_wp2_with fail
        go_ret
        exact ⟨by rw [HF.out]; rfl, HB.out⟩
      have HL : Hid (routE R = if linkB R.cs = false then 4 else 0) := by rw [Hid, HN.out, if_neg (by rw [HEN.out, hhi]; simp)]
      clear HN HEN
      have hl1 : Hid (linkB R.cs = linkB (R.cs.drop 0)) := rfl
      by_cases hn1 : i = 1
      · have HF : Hid (routE R = 0) := by
          rw [Hid, HL.out, if_neg]
          obtain ⟨c, hc⟩ : ∃ c, R.cs = [c] := by
            have := hn.out
            rw [hn1] at this
            match hcs : R.cs, this with
            | [c], _ => exact ⟨c, rfl⟩
          rw [hc]
          simp [linkB]
        subst hn1
        go_wp2_with fail
        all_goals
          go_loopw [6] (fun v wr => v = .int .i64 1 ∧ Blk wr w.heap.size 45 (rarr ⟨KA, kn, kc, some ⟨b, off, none⟩, 1, cc⟩ R) ∧ Below w.heap.size w wr) (fun _ _ => 0)
          case atStart => exact ⟨rfl, HK.out, HB.out⟩
          case round =>
            obtain ⟨rfl, hblk, hbel⟩ := hrel
            obtain ⟨q0, q1, q2, q3, q4, q5, qz⟩ := blk_ro hblk
            simp only at q1 q5
            go_wp2_with fail
            go_ret
            exact ⟨by rw [HF.out]; rfl, hbel⟩
      have hi22 : 2 ≤ i := by omega
      have hcc1 : (cc = 1) = False := by simp; have := HLC.out; omega
      have hcc2 : (1 : Int) ≤ (i : Int) := by omega
      go_wp2_with fail
      clear q0 q1 q2 q3 q4 q5 qz hlo hhi g0 g1 hw1 hi1 hi2 hi3
      obtain ⟨wo, hwo⟩ : ∃ wo : World, wo = wr := ⟨_, rfl⟩
      rw [← hwo] at HB HK ⊢
      clear hwo
      go_loopw [6] (fun v wr => ∃ j : Nat, j + 1 ≤ i ∧ v = .int .i64 ((j : Int) + 1) ∧ linkB R.cs = linkB (R.cs.drop j) ∧ Blk wr w.heap.size 45 (rarr ⟨KA, kn, kc, some ⟨b, off, none⟩, i, cc⟩ R) ∧ Below w.heap.size w wr) (fun v _ => i - (intOf v).toNat)
      case atStart => exact ⟨0, by omega, rfl, rfl, HK.out, HB.out⟩
      case round =>
        obtain ⟨j, hj, rfl, hlk, hblk, hbel⟩ := hrel
        have HLK := Lib.hid hlk
        have HB2 := Lib.hid hbel
        have HK2 := Lib.hid hblk
        clear hlk
        obtain ⟨q0, q1, q2, q3, q4, q5, qz⟩ := blk_ro hblk
        simp only at q1 q5
        have hNl := hblk.lt
        by_cases hjl : j + 1 < i
        · obtain ⟨b1, off1, x, hA, hbb, hx, e0, e1, _, _, _⟩ := H.out.cs.sr.at5 (i := j) (by show j < i; omega)
          simp only at hA
          injection hA with hA
          injection hA with hA1 hA2
          subst hA1 hA2
          obtain ⟨b1, off1, y, hA, _, hy, f0, f1, f2, f3, f4⟩ := H.out.cs.sr.at5 (i := j + 1) hjl
          simp only at hA
          injection hA with hA
          injection hA with hA1 hA2
          subst hA1 hA2
          have HX := Lib.hid (linkB_at hx hy)
          replace e0 := (hbel.cell (p := ⟨b, off + j * 5, none⟩) hbb).trans e0
          replace e1 := (hbel.cell (p := ⟨b, off + j * 5 + 1, none⟩) hbb).trans e1
          replace f0 := (hbel.cell (p := ⟨b, off + (j + 1) * 5, none⟩) hbb).trans f0
          clear f1 f2 f3 f4
          have hbw : b < wr.heap.size := by have := hbel.size; omega
          obtain ⟨xlo, xhi, xsh, xver, xju⟩ := x
          obtain ⟨ylo, yhi, ysh, yver, yju⟩ := y
          simp only at e0 e1 f0
          simp only at HX
          have j0 : (0 : Int) ≤ (j : Int) := by omega
          have j1 : (j : Int) < (i : Int) := by omega
          have j2 : (j : Int) + 1 < (i : Int) := by omega
          have j3 : ((j : Int) + 1).toNat = j + 1 := by omega
          have j4 : (0 : Int) ≤ (j : Int) + 1 := by omega
          have j5 : IntKind.i64.wrap ((j : Int) + 1 - 1) = (j : Int) := by rw [IntKind.wrap_i64]; omega
          have j6 : IntKind.i64.wrap (j : Int) = (j : Int) := by rw [IntKind.wrap_i64]; omega
          have j7 : (j : Int) < (i : Int) - 1 := by omega
          clear hx hy hbel hblk
          go_upto_region 21 with fail
          have X0 : ∀ kk : BW wr, kk.val.cell? ⟨w.heap.size, 5, none⟩ = some (.slice (some ⟨b, off, none⟩) i cc) := fun kk => kk.cell (blk_ro HK2.out).2.2.2.2.2.1
          have X1 : ∀ kk : BW wr, kk.val.cell? ⟨b, off + (j + 1) * 5, none⟩ = some (.string ylo) := fun kk => kk.cell f0
          have X2 : ∀ kk : BW wr, kk.val.cell? ⟨b, off + j * 5, none⟩ = some (.string xlo) := fun kk => kk.cell e0
          have X3 : ∀ kk : BW wr, kk.val.cell? ⟨b, off + j * 5 + 1, none⟩ = some (.string xhi) := fun kk => kk.cell e1
          clear q0 q1 q2 q3 q4 q5 qz e0 e1 f0
          cases hq : (ylo.toList == xhi.toList)
          rotate_left
          cases hr : Op.bytesLess ylo.toList xlo.toList
          cases hs : (ylo.toList == xlo.toList)
          all_goals
            refine wp_region_bw (by kernel_rfl) (by kernel_rfl) ?_
            repeat (go_big_quiet_step (fail))
            refine wpQuiet_nil ?_
            rintro _ ⟨kw, rfl⟩
            have HKW := Lib.hid kw.below
            generalize kw.val = w5 at *
            clear X0 X1 X2 X3
          rotate_left
          case' false | true.true | true.false.true =>
            have HF : Hid (routE R = 4) := by rw [Hid, HL.out, if_pos (by rw [HLK.out, HX.out]; first | (rw [hq, hr, hs]; rfl) | (rw [hq, hr]; rfl) | (rw [hq]; rfl))]
            go_wp2_with fail
            go_ret
            exact ⟨by rw [HF.out]; rfl, HB2.out.step' HKW.out⟩
          all_goals
            have HF : Hid (linkB R.cs = linkB (R.cs.drop (j + 1))) := by rw [Hid, HLK.out, HX.out, hq, hr, hs]; rfl
            go_wp2_with fail
            go_roundw
            case rel => exact ⟨j + 1, by omega, by go_num, HF.out, HK2.out.step HKW.out, HB2.out.step' HKW.out⟩
            case measure => simp [intOf]; omega
        · have HF : Hid (routE R = 0) := by
            rw [Hid, HL.out, if_neg]
            rw [HLK.out]
            obtain ⟨c, hc⟩ : ∃ c, R.cs.drop j = [c] := by
              have hl := List.length_drop (l := R.cs) (i := j)
              rw [← hn.out] at hl
              match hcs : R.cs.drop j, (show (R.cs.drop j).length = 1 by omega) with
              | [c], _ => exact ⟨c, rfl⟩
            rw [hc]
            simp [linkB]
          clear hbel hblk
          have j8 : ¬ (j : Int) < (i : Int) - 1 := by omega
          have j9 : ¬ (j : Int) + 1 < (i : Int) := by omega
          go_wp2_with fail
          go_ret
          exact ⟨by rw [HF.out]; rfl, HB2.out⟩

end Go.Proofs.YtblepmmibhphhaaGreatDoor


/- The contract of fits: routes and documents are valid. -/
namespace Go.Proofs.YtblepmmibhphhaaGreatDoor
open Go.RowKit

/-- no document, or none that is valid -/
noncomputable def badD (x : Val) : Bool := !(x.k == 5) || !(validV x)
noncomputable def fitsB (R : Ro) (l : List Val) : Bool := decide (l.length ≤ 40) && (decide (routE R = 0) && decide (idxI badD l < 0))
theorem fits_nil (R : Ro) : fitsB R [] = decide (routE R = 0) := by
  unfold fitsB
  rw [show idxI badD [] = -1 from rfl, decide_eq_true (show (-1 : Int) < 0 by decide), decide_eq_true (show ([] : List Val).length ≤ 40 by decide), Bool.and_true, Bool.true_and]
theorem fits_all {R : Ro} {l : List Val} (h : fitsB R l = true) : l.length ≤ 40 ∧ VR R ∧ ∀ x ∈ l, x.k = 5 ∧ validV x = true := by
  unfold fitsB at h
  simp only [Bool.and_eq_true, decide_eq_true_eq] at h
  refine ⟨h.1, (routE_iff R).1 h.2.1, fun x hx => ?_⟩
  rcases idxI_range badD l with ⟨_, h2⟩ | ⟨i, c, h2, _⟩
  · have := h2 x hx
    unfold badD at this
    simpa using this
  · have := h.2.2
    rw [h2] at this
    omega

set_option maxRecDepth 100000 in
set_option maxHeartbeats 1000000 in
theorem fits1_any (x : Val) (c : VC) (w : World) (h : RW w c x) : Calls Tryz.prog 54 #[c.val] w fun e w' => e = .returned (.bool (badD x)) ∧ Below w.heap.size w w' := by
  have hck : c.k = x.k := h.open.k
  have HV := Lib.hid fun (wr : World) (hb : Below w.heap.size w wr) => rvalid_any x c wr (h.step hb)
  have BE := Lib.hid ((Below.refl w.heap.size w).alloc (Nat.le_refl _) (Obj.cells c.arr 28))
  have B0 : Hid (Blk (w.alloc (Obj.cells c.arr 28)) w.heap.size 28 c.arr) := Blk.new_at rfl
  have HB : Hid (badD x = (!(c.k == 5) || !(validV x))) := by unfold Hid badD; rw [hck]
  clear h hck
  by_cases hk : c.k = 5
  · have HF : Hid ((!(c.k == 5)) = false) := by rw [Hid, hk]; rfl
    have hk2 : (c.k != 5) = false := by rw [hk]; rfl
    have HB2 : Hid (badD x = !(validV x)) := by rw [Hid, HB.out, HF.out, Bool.false_or]
    clear hk HF HB
    go_enter Tryz.func54, Tryz.ntmps54
    go_upto_region 1 with fail
    change Code.wp _ _ _ _ (w.alloc (Obj.cells c.arr 28))
    generalize w.alloc (Obj.cells c.arr 28) = wa at *
    obtain ⟨a0, a1, a2, a3, a4⟩ := VAt.of_blk B0.out
    simp only [Nat.zero_add] at a0 a1 a2 a3 a4
    go_wp2_with fail
    refine (HV.out _ BE.out).mono ?_
    rintro e w1 ⟨rfl, hb⟩
    have CE := Lib.hid (BE.out.step' hb)
    clear hb
    cases hv : validV x
    · rw [hv] at HB2
      clear hv
      go_wp2_with fail
      go_ret
      exact ⟨by rw [HB2.out]; rfl, CE.out⟩
    · rw [hv] at HB2
      clear hv
      go_wp2_with fail
      go_ret
      exact ⟨by rw [HB2.out]; rfl, CE.out⟩
  · have hk2 : (c.k != 5) = true := by simpa using hk
    have HB2 : Hid (badD x = true) := by rw [Hid, HB.out, show (c.k == 5) = false by simpa using hk]; rfl
    clear hk HB
    go_enter Tryz.func54, Tryz.ntmps54
    go_upto_region 1 with fail
    change Code.wp _ _ _ _ (w.alloc (Obj.cells c.arr 28))
    generalize w.alloc (Obj.cells c.arr 28) = wa at *
    obtain ⟨a0, a1, a2, a3, a4⟩ := VAt.of_blk B0.out
    simp only [Nat.zero_add] at a0 a1 a2 a3 a4
    go_wp2_with fail
    go_ret
    exact ⟨by rw [HB2.out]; rfl, BE.out⟩

set_option maxRecDepth 100000 in
set_option maxHeartbeats 1000000 in
theorem indexV_any (f : FuncId) (p : Val → Bool) (ps : List PV) (A : Option Addr) (n c : Nat) (w : World) (h : SL (fun _ => True) w A n c ps)
    (hent : ∀ args w, (callFunc f args).run Tryz.prog w = .ok (.enter f args) w)
    (hs : ∀ (q : PV) (wr : World), RW wr q.1 q.2 → Calls Tryz.prog f #[q.1.val] wr fun e w' => e = .returned (.bool (p q.2)) ∧ Below wr.heap.size wr w') :
    Calls Tryz.prog 87 #[.slice A n c, .func (.func f) #[] #[]] w fun e w' => e = .returned (.int .i64 (idxI p (ps.map Prod.snd))) ∧ Below w.heap.size w w' := by
  have hz : n ≤ 140737488355328 := by have := h.sz; unfold reach at this; omega
  have H := Lib.hid h
  have HS := Lib.hid hs
  clear h hs
  go_enter Tryz.func87, Tryz.ntmps87
  go_wp2_with fail
  go_loopw [8] (fun v wr => ∃ i : Nat, i ≤ n ∧ v = .int .i64 i ∧ idxI p (ps.map Prod.snd) = idxFrom p ((ps.map Prod.snd).drop i) i ∧ Below w.heap.size w wr) (fun v _ => n - (intOf v).toNat)
  case atStart => exact ⟨0, Nat.zero_le _, rfl, rfl, Below.refl _ _⟩
  case round =>
    obtain ⟨i, hi, rfl, ha, hbel⟩ := hrel
    have HA := Lib.hid ha
    have HB := Lib.hid hbel
    clear ha
    by_cases hlt : i < n
    · obtain ⟨q, hq⟩ : ∃ q, ps[i]? = some q := ⟨_, List.getElem?_eq_getElem (by have := H.out.sr.ln; omega)⟩
      obtain ⟨b, off, hA, _, hat, hrv⟩ := H.out.vat hq
      subst hA
      have HX := Lib.hid (idxFrom_at (p := p) (l := ps.map Prod.snd) (i := i) (x := q.2) (by rw [List.getElem?_map, hq]; rfl))
      have HR := Lib.hid (hrv.step hbel)
      obtain ⟨g0, g1, g2, g3, g4⟩ := hat.keep (hbel.block b hat.lt)
      clear hq hat hrv hbel
      go_wp2_with fail
      refine (HS.out q _ HR.out).mono ?_
      rintro e w1 ⟨rfl, hb1⟩
      have HB1 := Lib.hid (HB.out.step' hb1)
      clear hb1 g0 g1 g2 g3 g4
      cases hq : p q.2
      · have HF : Hid (idxI p (ps.map Prod.snd) = idxFrom p ((ps.map Prod.snd).drop (i + 1)) (i + 1)) := by rw [Hid, HA.out, HX.out, hq]; rfl
        go_wp2_with fail
        go_roundw
        case rel => exact ⟨i + 1, by omega, by go_num, HF.out, HB1.out⟩
        case measure => simp [intOf]; omega
      · have HF : Hid (idxI p (ps.map Prod.snd) = (i : Int)) := by rw [Hid, HA.out, HX.out, hq]; rfl
        go_wp2_with fail
        go_ret
        exact ⟨by rw [HF.out]; rfl, HB1.out⟩
    · have HF : Hid (idxI p (ps.map Prod.snd) = -1) := by rw [Hid, HA.out]; exact idxFrom_end (by have := H.out.sr.ln; rw [List.length_map]; omega)
      clear hbel
      go_wp2_with fail
      go_ret
      exact ⟨by rw [HF.out]; rfl, HB.out⟩
set_option maxRecDepth 100000 in
set_option maxHeartbeats 1000000 in
theorem containsV_any (ps : List PV) (A : Option Addr) (n c : Nat) (w : World) (h : SL (fun _ => True) w A n c ps) :
    Calls Tryz.prog 53 #[.slice A n c, .func (.func 54) #[] #[]] w fun e w' => e = .returned (.bool (decide (0 ≤ idxI badD (ps.map Prod.snd)))) ∧ Below w.heap.size w w' := by
  obtain ⟨Z, hZ⟩ : ∃ Z : Int, idxI badD (ps.map Prod.snd) = Z := ⟨_, rfl⟩
  have hI := indexV_any 54 badD ps A n c w h (fun _ _ => rfl) (fun q wr hr => fits1_any q.2 q.1 wr hr)
  rw [hZ] at hI ⊢
  have HI := Lib.hid hI
  clear hI hZ h
  go_enter Tryz.func53, Tryz.ntmps53
  go_wp2_with fail
  refine HI.out.mono ?_
  rintro e w1 ⟨rfl, hb1⟩
  have CE := Lib.hid hb1
  clear hb1 HI
  go_wp2_with fail
  go_ret
  exact ⟨rfl, CE.out⟩

set_option maxRecDepth 100000 in
set_option maxHeartbeats 2000000 in
theorem fits_any (R : Ro) (a : RA) (ps : List PV) (A : Option Addr) (n cc : Nat) (w : World) (h : RR w a R) (hp : SL (fun _ => True) w A n cc ps) :
    Calls Tryz.prog 20 #[rval a R, .slice A n cc] w fun e w' => e = .returned (.bool (fitsB R (ps.map Prod.snd))) ∧ Below w.heap.size w w' := by
  have HV := Lib.hid fun (wr : World) (hb : Below w.heap.size w wr) => rvalid49_any R a wr (h.step hb)
  have HC := Lib.hid fun (wr : World) (hb : Below w.heap.size w wr) => containsV_any ps A n cc wr (hp.step hb)
  have hnl : (ps.map Prod.snd).length = n := by rw [List.length_map]; exact hp.sr.ln.symm
  obtain ⟨KA, kn, kc, CA, cn, cz⟩ := a
  have B0 : Hid (Blk (w.alloc (Obj.cells (rarr ⟨KA, kn, kc, CA, cn, cz⟩ R) 45)) w.heap.size 45 (rarr ⟨KA, kn, kc, CA, cn, cz⟩ R)) := Blk.new_at rfl
  have BE := Lib.hid ((Below.refl w.heap.size w).alloc (Nat.le_refl _) (Obj.cells (rarr ⟨KA, kn, kc, CA, cn, cz⟩ R) 45))
  have HF : Hid (fitsB R (ps.map Prod.snd) = (decide (n ≤ 40) && (decide (routE R = 0) && decide (idxI badD (ps.map Prod.snd) < 0)))) := by unfold Hid fitsB; rw [hnl]
  obtain ⟨Z, hZ⟩ : ∃ Z : Int, idxI badD (ps.map Prod.snd) = Z := ⟨_, rfl⟩
  obtain ⟨E, hE⟩ : ∃ E : Int, routE R = E := ⟨_, rfl⟩
  rw [hZ, hE] at HF
  rw [hZ] at HC
  rw [hE] at HV
  clear h hp hnl hZ hE
  go_enter Tryz.func20, Tryz.ntmps20
  go_upto_region 1 with fail
  change Code.wp _ _ _ _ (w.alloc (Obj.cells (rarr ⟨KA, kn, kc, CA, cn, cz⟩ R) 45))
  generalize w.alloc (Obj.cells (rarr ⟨KA, kn, kc, CA, cn, cz⟩ R) 45) = wa at *
  obtain ⟨q0, q1, q2, q3, q4, q5, qz⟩ := blk_ro B0.out
  simp only at q1 q5
  by_cases hn : n ≤ 40
  · have hn1 : (n : Int) ≤ 40 := by omega
    have HF1 : Hid (fitsB R (ps.map Prod.snd) = (decide (E = 0) && decide (Z < 0))) := by rw [Hid, HF.out, decide_eq_true hn, Bool.true_and]
    clear hn HF
    go_wp2_with fail
    refine (HV.out _ BE.out).mono ?_
    rintro e w1 ⟨rfl, hb⟩
    have CE := Lib.hid (BE.out.step' hb)
    clear hb q0 q1 q2 q3 q4 q5 qz
    by_cases he : E = 0
    · have heb : (E == 0) = true := by simpa using he
      have HF2 : Hid (fitsB R (ps.map Prod.snd) = decide (Z < 0)) := by rw [Hid, HF1.out, decide_eq_true he, Bool.true_and]
      clear he HF1
      go_wp2_with fail
      refine (HC.out _ CE.out).mono ?_
      rintro e w2 ⟨rfl, hb⟩
      have DE := Lib.hid (CE.out.step' hb)
      clear hb
      have HZ : Hid ((!decide (0 ≤ Z)) = decide (Z < 0)) := by
        unfold Hid
        by_cases hz : Z < 0
        · rw [decide_eq_true hz, decide_eq_false (by omega)]; rfl
        · rw [decide_eq_false hz, decide_eq_true (by omega)]; rfl
      obtain ⟨zb, hzb⟩ : ∃ zb : Bool, decide (0 ≤ Z) = zb := ⟨_, rfl⟩
      rw [hzb] at HZ ⊢
      clear hzb
      go_wp2_with fail
      go_ret
      exact ⟨by rw [HF2.out, ← HZ.out]; rfl, DE.out⟩
    · have heb : (E == 0) = false := by simpa using he
      have HF2 : Hid (fitsB R (ps.map Prod.snd) = false) := by rw [Hid, HF1.out, decide_eq_false he, Bool.false_and]
      clear he HF1
      go_wp2_with fail
      go_ret
      exact ⟨by rw [HF2.out]; rfl, CE.out⟩
  · have hn1 : (40 : Int) < n := by omega
    have HF1 : Hid (fitsB R (ps.map Prod.snd) = false) := by rw [Hid, HF.out, decide_eq_false hn, Bool.false_and]
    clear hn HF
    go_wp2_with fail
    go_ret
    exact ⟨by rw [HF1.out]; rfl, BE.out⟩

end Go.Proofs.YtblepmmibhphhaaGreatDoor

