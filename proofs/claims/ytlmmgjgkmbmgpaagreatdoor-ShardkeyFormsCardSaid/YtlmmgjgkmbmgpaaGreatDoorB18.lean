/- Parts of the proof, joined: ShVals, ShEnc, ShAwPure, EncOne, EncKeyR, ShCodeR, ShEncR, ShKey1, ChBaseA. -/
import Derived.Test.YtlmmgjgkmbmgpaaGreatDoorB14
import Derived.Test.YtlmmgjgkmbmgpaaGreatDoorB3
import Derived.Test.YtlmmgjgkmbmgpaaGreatDoorB17
import Derived.Test.YtlmmgjgkmbmgpaaGreatDoorB8
import Derived.Test.YtlmmgjgkmbmgpaaGreatDoorB4
import Derived.Test.YtlmmgjgkmbmgpaaGreatDoorB5
import Derived.Test.YtlmmgjgkmbmgpaaGreatDoorB13
import Derived.Test.YtlmmgjgkmbmgpaaGreatDoorB2
import Derived.Deep.RegionHeld3
import Derived.Laws.OwnMore
/- The key values of a document; the contract of the reference's Values. Printed by gen_shvals.py. -/
namespace Go.Proofs.YtlmmgjgkmbmgpaaGreatDoor
open Go.RowKit

theorem alloc_le {a : Nat} {w : World} (h : a ≤ w.heap.size) (o : Obj) : a ≤ (w.alloc o).heap.size := by simp; omega
/-- the key values of a document -/
def valsAt (x : Val) : List Od → Option (List Val)
  | [] => some []
  | q :: r => match keyAt x q.p with
    | none => none
    | some y => (valsAt x r).map (y :: ·)
theorem valsAt_at {x : Val} {ks : List Od} {i : Nat} {q : Od} (h : ks[i]? = some q) : valsAt x (ks.drop i) = match keyAt x q.p with
    | none => none
    | some y => (valsAt x (ks.drop (i + 1))).map (y :: ·) := by rw [drop_of h, valsAt]
noncomputable def valsR (ks : List Od) (x : Val) : Option (List Val) := if x.k = 5 ∧ validV x = true then valsAt x ks else none
theorem valsR_yes {ks : List Od} {x : Val} (h : x.k = 5) (h' : validV x = true) : valsR ks x = valsAt x ks := if_pos ⟨h, h'⟩
theorem valsR_kind {ks : List Od} {x : Val} (h : x.k ≠ 5) : valsR ks x = none := if_neg fun e => h e.1
theorem valsR_bad {ks : List Od} {x : Val} (h : validV x = false) : valsR ks x = none := if_neg fun e => by rw [h] at e; cases e.2

/-- a value, if there is one -/
def RVo (F : Nat → Prop) (w : World) (c : VC) (o : Option Val) : Prop := ∀ y, o = some y → RV F w c y
theorem RVo.keep {F : Nat → Prop} {w w' : World} {c : VC} {o : Option Val} (h : RVo F w c o) (hk : ∀ b, F b → w'.heap[b]? = w.heap[b]?) : RVo F w' c o := fun y hy => (h y hy).keep hk
theorem RVo.step {F : Nat → Prop} {w w' : World} {c : VC} {o : Option Val} (h : RVo F w c o) (hb : Below w.heap.size w w') : RVo F w' c o := fun y hy => (h y hy).step hb
theorem RVo.alloc {F : Nat → Prop} {w : World} {c : VC} {o : Option Val} (h : RVo F w c o) (q : Obj) : RVo F (w.alloc q) c o := fun y hy => (h y hy).alloc q

/-- values that were gathered in a row of the call's own -/
structure VsI (w : World) (v : Value) (ps : List PV) (wr : World) : Prop where
  own : wr.ownsRow w.heap.size 46 5 v ps.length (flat recV ps)
  rv : ∀ p ∈ ps, RV (fun b => v.ownBlock ≠ some b) wr p.1 p.2
  bel : Below w.heap.size w wr
theorem VsI.step {w wr w' : World} {v : Value} {ps : List PV} (h : VsI w v ps wr) (hb : Below wr.heap.size wr w') : VsI w v ps w' := ⟨own_step h.own hb, fun p hp => (h.rv p hp).step hb, h.bel.step' hb⟩
theorem VsI.start (w : World) : VsI w (.slice none 0 0) [] w := ⟨own_nil _ _ _ _, fun p hp => by simp at hp, Below.refl _ _⟩
theorem VsI.add {w wr w' : World} {v v' : Value} {ps : List PV} {p : PV} {m : Nat} (h : VsI w v ps wr) (hp : RV (fun b => v.ownBlock ≠ some b) wr p.1 p.2) (hm : m = ps.length + 1)
    (ho : w'.ownsRow w.heap.size 46 5 v' m (flat recV ps ++ recV p)) (hg : wr.grownBy w' v.ownBlock) (hat : v'.ownBlock = v.ownBlock ∨ v'.ownBlock = some wr.heap.size) : VsI w v' (ps ++ [p]) w' := by
  subst hm
  have key : ∀ b, v.ownBlock ≠ some b → b < wr.heap.size → v'.ownBlock ≠ some b ∧ w'.heap[b]? = wr.heap[b]? := fun b hb hl => by
    refine ⟨?_, hg.block b hl (fun e => hb e.symm)⟩
    rcases hat with e | e <;> rw [e]
    · exact hb
    · intro e'
      injection e' with e'
      omega
  refine ⟨by rw [flat_snoc, List.length_append]; exact ho, fun q hq => ?_, h.bel.grown hg h.bel.size (own_ge h.own)⟩
  rcases List.mem_append.1 hq with hq | hq
  · exact (h.rv q hq).keepG key
  · simp at hq
    subst hq
    exact hp.keepG key
theorem VsI.far {w wr : World} {v : Value} {ps : List PV} (h : VsI w v ps wr) {b : Nat} (hb : b < w.heap.size ∨ wr.heap.size ≤ b) : v.ownBlock ≠ some b := fun e => by
  have h1 := own_ge h.own b e
  have h2 := own_lt h.own e
  omega
theorem VsI.sl {w wr : World} {v : Value} {ps : List PV} (h : VsI w v ps wr) (hz : ps.length ≤ 1000000) : ∃ A c, v = .slice A ps.length c ∧ SL (fun _ => True) wr A ps.length c ps :=
  SL.of_own h.own rfl (by unfold reach; omega) (fun _ _ => trivial) fun p hp => (h.rv p hp).mono fun _ _ => trivial

/-- what Values hands back -/
def ValsOk (ks : List Od) (x : Val) (w : World) (e : Ending) (w' : World) : Prop :=
  ∃ v : Value, e = .returned (.tuple #[v, .bool (valsR ks x).isSome]) ∧ (∀ ys, valsR ks x = some ys → ∃ ps A n c, ps.map Prod.snd = ys ∧ v = .slice A n c ∧ SL (fun _ => True) w' A n c ps) ∧ Below w.heap.size w w'
/-- the loop of Values -/
structure VlI (w : World) (k : Array Value) (c : VC) (v : Value) (ps : List PV) (wr : World) : Prop where
  b0 : Blk wr w.heap.size 24 k
  b1 : Blk wr (w.heap.size + 1) 46 c.arr
  sz : w.heap.size + 2 ≤ wr.heap.size
  vs : VsI w v ps wr
  ne : v.ownBlock ≠ some w.heap.size ∧ v.ownBlock ≠ some (w.heap.size + 1)
theorem VlI.step {w wr w' : World} {k : Array Value} {c : VC} {v : Value} {ps : List PV} (h : VlI w k c v ps wr) (hb : Below wr.heap.size wr w') : VlI w k c v ps w' := ⟨h.b0.step hb, h.b1.step hb, Nat.le_trans h.sz hb.size, h.vs.step hb, h.ne⟩
theorem VlI.add {w wr w' : World} {k : Array Value} {c : VC} {v v' : Value} {ps : List PV} {p : PV} {m : Nat} (h : VlI w k c v ps wr) (hp : RV (fun b => v.ownBlock ≠ some b) wr p.1 p.2) (hm : m = ps.length + 1)
    (ho : w'.ownsRow w.heap.size 46 5 v' m (flat recV ps ++ recV p)) (hg : wr.grownBy w' v.ownBlock) (hat : v'.ownBlock = v.ownBlock ∨ v'.ownBlock = some wr.heap.size) : VlI w k c v' (ps ++ [p]) w' := by
  have hs := h.sz
  refine ⟨h.b0.grown hg (fun e => h.ne.1 e.symm), h.b1.grown hg (fun e => h.ne.2 e.symm), Nat.le_trans h.sz hg.size, h.vs.add hp hm ho hg hat, ?_⟩
  rcases hat with e | e <;> rw [e]
  · exact h.ne
  · exact ⟨fun e => (by injection e; omega), fun e => (by injection e; omega)⟩
theorem VlI.start {w : World} {c : VC} {k : Array Value} : VlI w k c (.slice none 0 0) [] ((w.alloc (Obj.cells k 24)).alloc (Obj.cells c.arr 46)) := by
  have hb : Below w.heap.size w ((w.alloc (Obj.cells k 24)).alloc (Obj.cells c.arr 46)) := ((Below.refl _ _).alloc (Nat.le_refl _) _).alloc (by simp) _
  exact ⟨(Blk.new_at rfl).alloc _, Blk.new_at (by simp), by simp, ⟨own_nil _ _ _ _, fun p hp => by simp at hp, hb⟩, by simp [Value.ownBlock], by simp [Value.ownBlock]⟩

set_option maxRecDepth 100000 in
set_option maxHeartbeats 2000000 in
theorem rvalues_any (ks : List Od) (ha : Bool) (A : Option Addr) (n cc : Nat) (x : Val) (c : VC) (w : World) (hk : KS w A n cc ks) (hx : RW w c x) (h8 : ks.length ≤ 8) :
    Calls Tryz.prog 82 #[.agg #[.slice A n cc, .bool ha], c.val] w (ValsOk ks x w) := by
  obtain ⟨i0, hi0, hy0, hy1, hy2⟩ := info_parts info_value
  have HN := Lib.hid hk.ln
  have HX := Lib.hid hx
  have HK := Lib.hid hk
  have HKX : Hid (c.k = x.k) := hx.open.k
  have hn8 : n ≤ 8 := by have := HN.out; omega
  have I0 : Hid (VlI w #[.slice A n cc, .bool ha] c (.slice none 0 0) [] ((w.alloc (Obj.cells #[.slice A n cc, .bool ha] 24)).alloc (Obj.cells c.arr 46))) := VlI.start
  clear hk hx
  go_enter Tryz.func82, Tryz.ntmps82
  go_upto_region 2 with fail
  change Code.wp _ _ _ _ ((w.alloc (Obj.cells #[.slice A n cc, .bool ha] 24)).alloc (Obj.cells c.arr 46))
  generalize ((w.alloc (Obj.cells #[.slice A n cc, .bool ha] 24)).alloc (Obj.cells c.arr 46)) = wa at *
  obtain ⟨a0, a1, a2, a3, a4⟩ := VAt.of_blk I0.out.b1
  simp only [Nat.zero_add] at a0 a1 a2 a3 a4
  by_cases h5 : c.k = 5
  rotate_left
  · have h5b : (c.k != 5) = true := by simp [h5]
    have HV : Hid (valsR ks x = none) := valsR_kind (by rw [← HKX.out]; exact h5)
    clear h5
    go_wp2_with fail
    go_ret2
    exact ⟨_, by rw [HV.out]; rfl, fun ys h => by rw [HV.out] at h; (cases h), I0.out.vs.bel⟩
  have h5b : (c.k != 5) = false := by simp [h5]
  have HX5 : Hid (x.k = 5) := by unfold Hid; rw [← HKX.out]; exact h5
  clear h5
  have hva := Lib.hid (rvalid_any x c wa (HX.out.step I0.out.vs.bel))
  cases hv : validV x
  · have HV : Hid (valsR ks x = none) := valsR_bad hv
    rw [hv] at hva
    clear hv
    go_wp2_with fail
    refine hva.out.mono ?_
    rintro e w1 ⟨rfl, hb⟩
    have I1 := Lib.hid (I0.out.step hb)
    clear hva hb a0 a1 a2 a3 a4
    go_wp2_with fail
    go_ret2
    exact ⟨_, by rw [HV.out]; rfl, fun ys h => by rw [HV.out] at h; (cases h), I1.out.vs.bel⟩
  have HVX : Hid (valsR ks x = valsAt x ks) := valsR_yes HX5.out hv
  rw [hv] at hva
  clear hv
  go_wp2_with fail
  refine hva.out.mono ?_
  rintro e w1 ⟨rfl, hb⟩
  have I1 := Lib.hid (I0.out.step hb)
  clear hva hb a0 a1 a2 a3 a4 I0
  go_upto_region 5 with fail
  go_loopw [6, 7, 8, 9] (fun u6 u7 _ _ wr => ∃ (i : Nat) (ps : List PV), i ≤ n ∧ ps.length = i ∧ u7 = .int .i64 i ∧ valsAt x ks = (valsAt x (ks.drop i)).map (ps.map Prod.snd ++ ·) ∧ VlI w #[.slice A n cc, .bool ha] c u6 ps wr) (fun _ u7 _ _ _ => n - (intOf u7).toNat)
  case atStart => exact ⟨0, [], Nat.zero_le _, rfl, rfl, by simp, I1.out⟩
  case round =>
    obtain ⟨i, ps, hi, hpl, rfl, hall, J⟩ := hrel
    have HPL := Lib.hid hpl
    have HA := Lib.hid hall
    have J2 := Lib.hid J
    have k0 := J.b0.cell 0
    simp at k0
    clear hpl hall J I1
    by_cases hlt : i < n
    · obtain ⟨os, hos⟩ := HK.out
      obtain ⟨b, off, o, hA, hb, ho, e0, e1⟩ := hos.sr.at2 hlt
      subst hA
      obtain ⟨q, hq⟩ : ∃ q, ks[i]? = some q := ⟨_, List.getElem?_eq_getElem (by have := HN.out; omega)⟩
      have HOR := Lib.hid (hos.el i o q ho hq)
      have HVA := Lib.hid (valsAt_at (x := x) hq)
      have ew := (J2.out.vs.bel.cell (p := ⟨b, off + i * 2, none⟩) hb).trans e0
      have i0' : (0 : Int) ≤ (i : Int) := by omega
      have i1' : (i : Int) < (n : Int) := by omega
      clear hos ho hq e0 e1
      obtain ⟨a0, a1, a2, a3, a4⟩ := VAt.of_blk J2.out.b1
      simp only [Nat.zero_add] at a0 a1 a2 a3 a4
      go_upto_region 7 with fail
      have lb0 := J2.out.b0.lt
      have lb1 := J2.out.b1.lt
      have lbb : b < wr.heap.size := Nat.lt_of_lt_of_le hb J2.out.vs.bel.size
      have hsz : w.heap.size ≤ wr.heap.size := J2.out.vs.bel.size
      have KC : Hid (∀ w' : World, (∀ g, g < wr.heap.size → w'.heap[g]? = wr.heap[g]?) → w'.cell? ⟨w.heap.size + 1, 0, none⟩ = some (.int .i64 c.k) ∧ w'.cell? ⟨w.heap.size + 1, 1, none⟩ = some (.int .i64 c.n) ∧ w'.cell? ⟨w.heap.size + 1, 2, none⟩ = some (.string c.t) ∧ w'.cell? ⟨w.heap.size + 1, 3, none⟩ = some (.slice c.LA c.ln c.lc) ∧ w'.cell? ⟨w.heap.size + 1, 4, none⟩ = some (.slice c.DA c.dn c.dc) ∧ w'.cell? ⟨w.heap.size, 0, none⟩ = some (.slice (some ⟨b, off, none⟩) n cc) ∧ w'.cell? ⟨b, off + i * 2, none⟩ = some (.slice o.A o.n o.c)) := Lib.hid fun w' hk => by
        have p0 : ∀ o, w'.cell? ⟨w.heap.size, o, none⟩ = wr.cell? ⟨w.heap.size, o, none⟩ := fun o => World.cell?_of_block (w := wr) (a := ⟨w.heap.size, o, none⟩) (hk _ lb0)
        have p1 : ∀ o, w'.cell? ⟨w.heap.size + 1, o, none⟩ = wr.cell? ⟨w.heap.size + 1, o, none⟩ := fun o => World.cell?_of_block (w := wr) (a := ⟨w.heap.size + 1, o, none⟩) (hk _ lb1)
        have p2 : ∀ o, w'.cell? ⟨b, o, none⟩ = wr.cell? ⟨b, o, none⟩ := fun o => World.cell?_of_block (w := wr) (a := ⟨b, o, none⟩) (hk _ lbb)
        exact ⟨(p1 _).trans a0, (p1 _).trans a1, (p1 _).trans a2, (p1 _).trans a3, (p1 _).trans a4, (p0 _).trans k0, (p2 _).trans ew⟩
      have HGV : Hid (∀ wq, Below wr.heap.size wr wq → Calls Tryz.prog 124 #[c.val, .slice o.A o.n o.c] wq (fun e w' => ∃ c9 : VC, e = .returned (.tuple #[c9.val, .bool (keyAt x q.p).isSome]) ∧ RVo (fun b => b < w.heap.size) w' c9 (keyAt x q.p) ∧ Below wq.heap.size wq w')) :=
        Lib.hid fun wq hq => rkv_any q.p (fun b => b < w.heap.size) x c o.A o.n o.c wq (fun b hb => by have := hq.size; omega) ((HX.out.lt.mono fun b hb => hb.2).keep fun b hb => (J2.out.vs.bel.step' hq).block b hb) ((HOR.out.st.step J2.out.vs.bel).step hq)
      go_cut [8, 9] (fun v8 v9 wx => ∃ (g9 : Nat) (c9 : VC), v8 = .pointer (some ⟨g9, 0, none⟩) ∧ v9 = .bool (keyAt x q.p).isSome ∧ Blk wx g9 46 c9.arr ∧ RVo (fun b => b < w.heap.size) wx c9 (keyAt x q.p) ∧ wr.heap.size ≤ g9 ∧ Below wr.heap.size wr wx)
      case first =>
        refine wp_region_noPanic ?_
        refine wp_region_held_drew (S := (fun w' => w'.cell? ⟨w.heap.size + 1, 0, none⟩ = some (.int .i64 c.k) ∧ w'.cell? ⟨w.heap.size + 1, 1, none⟩ = some (.int .i64 c.n) ∧ w'.cell? ⟨w.heap.size + 1, 2, none⟩ = some (.string c.t) ∧ w'.cell? ⟨w.heap.size + 1, 3, none⟩ = some (.slice c.LA c.ln c.lc) ∧ w'.cell? ⟨w.heap.size + 1, 4, none⟩ = some (.slice c.DA c.dn c.dc) ∧ w'.cell? ⟨w.heap.size, 0, none⟩ = some (.slice (some ⟨b, off, none⟩) n cc) ∧ w'.cell? ⟨b, off + i * 2, none⟩ = some (.slice o.A o.n o.c))) (by kernel_rfl) ?_ (fun hHeld => ?_)
        · (try dsimp only); exact KC.out _ (fun g hg => rfl)
        have B : Hid (Below wr.heap.size wr wr.drew) := Lib.hid ((Below.refl wr.heap.size wr).drew)
        generalize wr.drew = W0 at *
        refine wpAnyH_take (i := 0) (v := ?_) (take_at rfl) (by kernel_rfl) (by kernel_rfl) (by kernel_rfl) (fun _ _ _ h => h) (Or.inl ⟨by rfl, ?_⟩) (by assumption) ?_
        rotate_left
        · intro w' hSw; (try dsimp only at hSw); go_simp; (try with_reducible rfl)
        (try simp only [Act.put, List.setIfInBounds_toArray, List.set_cons_zero, List.set_cons_succ])
        refine wpAnyH_take (i := 1) (v := ?_) (take_at rfl) (by kernel_rfl) (by kernel_rfl) (by kernel_rfl) (fun _ _ _ h => h) (Or.inl ⟨by rfl, ?_⟩) (by assumption) ?_
        rotate_left
        · intro w' hSw; (try dsimp only at hSw); go_simp; (try with_reducible rfl)
        (try simp only [Act.put, List.setIfInBounds_toArray, List.set_cons_zero, List.set_cons_succ])
        refine wpAnyH_take (i := 2) (v := ?_) (take_at rfl) (by kernel_rfl) (by kernel_rfl) (by kernel_rfl) (fun _ _ _ h => h) (Or.inl ⟨by rfl, ?_⟩) (by assumption) ?_
        rotate_left
        · intro w' hSw; (try dsimp only at hSw); go_simp; (try with_reducible rfl)
        (try simp only [Act.put, List.setIfInBounds_toArray, List.set_cons_zero, List.set_cons_succ])
        refine wpAnyH_take (i := 3) (v := ?_) (take_at rfl) (by kernel_rfl) (by kernel_rfl) (by kernel_rfl) (fun _ _ _ h => h) (Or.inl ⟨by rfl, ?_⟩) (by assumption) ?_
        rotate_left
        · intro w' hSw; (try dsimp only at hSw); go_simp; (try with_reducible rfl)
        (try simp only [Act.put, List.setIfInBounds_toArray, List.set_cons_zero, List.set_cons_succ])
        refine wpAnyH_take (i := 4) (v := ?_) (take_at rfl) (by kernel_rfl) (by kernel_rfl) (by kernel_rfl) (fun _ _ _ h => h) (Or.inl ⟨by rfl, ?_⟩) (by assumption) ?_
        rotate_left
        · intro w' hSw; (try dsimp only at hSw); go_simp; (try with_reducible rfl)
        (try simp only [Act.put, List.setIfInBounds_toArray, List.set_cons_zero, List.set_cons_succ])
        refine wpAnyH_take (i := 5) (v := ?_) (take_at rfl) (by kernel_rfl) (by kernel_rfl) (by kernel_rfl) (fun _ _ _ h => h) (Or.inl ⟨by rfl, ?_⟩) (by assumption) ?_
        rotate_left
        · intro w' hSw; (try dsimp only at hSw); go_simp; (try with_reducible rfl)
        (try simp only [Act.put, List.setIfInBounds_toArray, List.set_cons_zero, List.set_cons_succ])
        refine wpAnyH_take (i := 6) (v := ?_) (take_at rfl) (by kernel_rfl) (by kernel_rfl) (by kernel_rfl) (fun _ _ _ h => h) (Or.inl ⟨by rfl, ?_⟩) (by assumption) ?_
        rotate_left
        · intro w' hSw; (try dsimp only at hSw); go_simp; (try with_reducible rfl)
        (try simp only [Act.put, List.setIfInBounds_toArray, List.set_cons_zero, List.set_cons_succ])
        refine wpAnyH_ready (rs := [7, 11]) (by kernel_rfl) (by simp) ?_
        refine AllReadyH.cons (take_at rfl) (fun K hK => ?_) (AllReadyH.cons (take_at rfl) (fun K hK => ?_) AllReadyH.nil)
        · go_simp
          refine (HGV.out _ B.out).mono ?_
          rintro e W1 ⟨c9, rfl, hr, hb⟩
          have R9 := Lib.hid hr
          replace B := Lib.hid (B.out.step' hb)
          clear hb hr
          (try go_wp2_with fail)
          refine hK.out _ _ ?_ (fun hHeld2 => ?_)
          · (try dsimp only); exact KC.out _ (fun g hg => B.out.block g hg)
          clear hK K hHeld
          have hHeld := hHeld2
          clear hHeld2
          (try simp only [Act.put, List.setIfInBounds_toArray, List.set_cons_zero, List.set_cons_succ])
          refine wpAnyH_take (i := 8) (v := ?_) (take_at rfl) (by kernel_rfl) (by kernel_rfl) (by kernel_rfl) (fun _ _ _ h => h) (Or.inl ⟨by rfl, ?_⟩) (by assumption) ?_
          rotate_left
          · intro w' hSw; (try dsimp only at hSw); go_simp; (try with_reducible rfl)
          (try simp only [Act.put, List.setIfInBounds_toArray, List.set_cons_zero, List.set_cons_succ])
          refine wpAnyH_take (i := 9) (v := ?_) (take_at rfl) (by kernel_rfl) (by kernel_rfl) (by kernel_rfl) (fun _ _ _ h => h) (Or.inl ⟨by rfl, ?_⟩) (by assumption) ?_
          rotate_left
          · intro w' hSw; (try dsimp only at hSw); go_simp; (try with_reducible rfl)
          (try simp only [Act.put, List.setIfInBounds_toArray, List.set_cons_zero, List.set_cons_succ])
          refine wpAnyH_take (i := 10) (v := ?_) (take_at rfl) (by kernel_rfl) (by kernel_rfl) (by kernel_rfl) (fun _ _ _ h => h) (Or.inl ⟨by rfl, ?_⟩) (by assumption) ?_
          rotate_left
          · intro w' hSw; (try dsimp only at hSw); go_simp; (try with_reducible rfl)
          (try simp only [Act.put, List.setIfInBounds_toArray, List.set_cons_zero, List.set_cons_succ])
          refine wpAnyH_ready (rs := [11]) (by kernel_rfl) (by simp) ?_
          refine AllReadyH.cons (take_at rfl) (fun K hK => ?_) AllReadyH.nil
          go_simp
          have hg9 : wr.heap.size ≤ W1.heap.size := B.out.size
          have Q9 : Hid (Blk (W1.alloc (Obj.cells VC.zero.arr 46)) W1.heap.size 46 VC.zero.arr) := Blk.new_at rfl
          replace R9 := Lib.hid (R9.out.alloc (Obj.cells VC.zero.arr 46))
          replace B := Lib.hid (B.out.alloc B.out.size (Obj.cells VC.zero.arr 46))
          change K _ (W1.alloc (Obj.cells VC.zero.arr 46))
          generalize W1.alloc (Obj.cells VC.zero.arr 46) = W2 at *
          generalize W1.heap.size = g9 at *
          refine hK.out _ _ ?_ (fun hHeld2 => ?_)
          · (try dsimp only); exact KC.out _ (fun g hg => B.out.block g hg)
          clear hK K hHeld
          have hHeld := hHeld2
          clear hHeld2
          (try simp only [Act.put, List.setIfInBounds_toArray, List.set_cons_zero, List.set_cons_succ])
          refine wpAnyH_ready (rs := [12]) (by kernel_rfl) (by simp) ?_
          refine AllReadyH.cons (take_at rfl) (fun K hK => ?_) AllReadyH.nil
          obtain ⟨z0, z1, z2, z3, z4⟩ := VAt.of_blk Q9.out
          simp only [Nat.zero_add] at z0 z1 z2 z3 z4
          have zz := Q9.out.frozen
          have lq := Q9.out.lt
          go_simp
          have R9' := Lib.hid (R9.out.keep (w' := setV W2 g9 0 c9) fun b hb => heap_setV (by have hb : b < w.heap.size := hb; omega))
          have Q9' := Lib.hid (Q9.out.putV c9)
          have B' := Lib.hid (below_setV B.out hg9 0 c9)
          clear z0 z1 z2 z3 z4 zz lq R9 Q9 B
          have R9 := R9'
          have Q9 := Q9'
          have B := B'
          clear R9' Q9' B'
          change K _ (setV W2 g9 0 c9)
          generalize setV W2 g9 0 c9 = W3 at *
          refine hK.out _ _ ?_ (fun hHeld2 => ?_)
          · (try dsimp only); exact KC.out _ (fun g hg => B.out.block g hg)
          clear hK K hHeld
          have hHeld := hHeld2
          clear hHeld2
          (try simp only [Act.put, List.setIfInBounds_toArray, List.set_cons_zero, List.set_cons_succ])
          refine wpAnyH_take (i := 13) (v := ?_) (take_at rfl) (by kernel_rfl) (by kernel_rfl) (by kernel_rfl) (fun _ _ _ h => h) (Or.inl ⟨by rfl, ?_⟩) (by assumption) ?_
          rotate_left
          · intro w' hSw; (try dsimp only at hSw); go_simp; (try with_reducible rfl)
          (try simp only [Act.put, List.setIfInBounds_toArray, List.set_cons_zero, List.set_cons_succ])
          refine wpAnyH_done (by kernel_rfl) ?_ _
          refine NoPanic.normal ?_
          go_wp2_with fail
          go_meet
          exact ⟨g9, c9, rfl, rfl, Q9.out, R9.out, by omega, B.out⟩
        · go_simp
          have hg9 : wr.heap.size ≤ W0.heap.size := B.out.size
          have Q9 : Hid (Blk (W0.alloc (Obj.cells VC.zero.arr 46)) W0.heap.size 46 VC.zero.arr) := Blk.new_at rfl
          replace B := Lib.hid (B.out.alloc B.out.size (Obj.cells VC.zero.arr 46))
          change K _ (W0.alloc (Obj.cells VC.zero.arr 46))
          generalize W0.alloc (Obj.cells VC.zero.arr 46) = W1 at *
          generalize W0.heap.size = g9 at *
          refine hK.out _ _ ?_ (fun hHeld2 => ?_)
          · (try dsimp only); exact KC.out _ (fun g hg => B.out.block g hg)
          clear hK K hHeld
          have hHeld := hHeld2
          clear hHeld2
          (try simp only [Act.put, List.setIfInBounds_toArray, List.set_cons_zero, List.set_cons_succ])
          refine wpAnyH_ready (rs := [7]) (by kernel_rfl) (by simp) ?_
          refine AllReadyH.cons (take_at rfl) (fun K hK => ?_) AllReadyH.nil
          go_simp
          refine (HGV.out _ B.out).mono ?_
          rintro e W2 ⟨c9, rfl, hr, hb⟩
          have R9 := Lib.hid hr
          replace Q9 := Lib.hid (Q9.out.step hb)
          replace B := Lib.hid (B.out.step' hb)
          clear hb hr
          (try go_wp2_with fail)
          refine hK.out _ _ ?_ (fun hHeld2 => ?_)
          · (try dsimp only); exact KC.out _ (fun g hg => B.out.block g hg)
          clear hK K hHeld
          have hHeld := hHeld2
          clear hHeld2
          (try simp only [Act.put, List.setIfInBounds_toArray, List.set_cons_zero, List.set_cons_succ])
          refine wpAnyH_take (i := 8) (v := ?_) (take_at rfl) (by kernel_rfl) (by kernel_rfl) (by kernel_rfl) (fun _ _ _ h => h) (Or.inl ⟨by rfl, ?_⟩) (by assumption) ?_
          rotate_left
          · intro w' hSw; (try dsimp only at hSw); go_simp; (try with_reducible rfl)
          (try simp only [Act.put, List.setIfInBounds_toArray, List.set_cons_zero, List.set_cons_succ])
          refine wpAnyH_take (i := 9) (v := ?_) (take_at rfl) (by kernel_rfl) (by kernel_rfl) (by kernel_rfl) (fun _ _ _ h => h) (Or.inl ⟨by rfl, ?_⟩) (by assumption) ?_
          rotate_left
          · intro w' hSw; (try dsimp only at hSw); go_simp; (try with_reducible rfl)
          (try simp only [Act.put, List.setIfInBounds_toArray, List.set_cons_zero, List.set_cons_succ])
          refine wpAnyH_take (i := 10) (v := ?_) (take_at rfl) (by kernel_rfl) (by kernel_rfl) (by kernel_rfl) (fun _ _ _ h => h) (Or.inl ⟨by rfl, ?_⟩) (by assumption) ?_
          rotate_left
          · intro w' hSw; (try dsimp only at hSw); go_simp; (try with_reducible rfl)
          (try simp only [Act.put, List.setIfInBounds_toArray, List.set_cons_zero, List.set_cons_succ])
          refine wpAnyH_ready (rs := [12]) (by kernel_rfl) (by simp) ?_
          refine AllReadyH.cons (take_at rfl) (fun K hK => ?_) AllReadyH.nil
          obtain ⟨z0, z1, z2, z3, z4⟩ := VAt.of_blk Q9.out
          simp only [Nat.zero_add] at z0 z1 z2 z3 z4
          have zz := Q9.out.frozen
          have lq := Q9.out.lt
          go_simp
          have R9' := Lib.hid (R9.out.keep (w' := setV W2 g9 0 c9) fun b hb => heap_setV (by have hb : b < w.heap.size := hb; omega))
          have Q9' := Lib.hid (Q9.out.putV c9)
          have B' := Lib.hid (below_setV B.out hg9 0 c9)
          clear z0 z1 z2 z3 z4 zz lq R9 Q9 B
          have R9 := R9'
          have Q9 := Q9'
          have B := B'
          clear R9' Q9' B'
          change K _ (setV W2 g9 0 c9)
          generalize setV W2 g9 0 c9 = W3 at *
          refine hK.out _ _ ?_ (fun hHeld2 => ?_)
          · (try dsimp only); exact KC.out _ (fun g hg => B.out.block g hg)
          clear hK K hHeld
          have hHeld := hHeld2
          clear hHeld2
          (try simp only [Act.put, List.setIfInBounds_toArray, List.set_cons_zero, List.set_cons_succ])
          refine wpAnyH_take (i := 13) (v := ?_) (take_at rfl) (by kernel_rfl) (by kernel_rfl) (by kernel_rfl) (fun _ _ _ h => h) (Or.inl ⟨by rfl, ?_⟩) (by assumption) ?_
          rotate_left
          · intro w' hSw; (try dsimp only at hSw); go_simp; (try with_reducible rfl)
          (try simp only [Act.put, List.setIfInBounds_toArray, List.set_cons_zero, List.set_cons_succ])
          refine wpAnyH_done (by kernel_rfl) ?_ _
          refine NoPanic.normal ?_
          go_wp2_with fail
          go_meet
          exact ⟨g9, c9, rfl, rfl, Q9.out, R9.out, by omega, B.out⟩
      case rest =>
        obtain ⟨g9, c9, rfl, rfl, hg9, hr9, hl9, hb9⟩ := hcut
        have J3 := Lib.hid (J2.out.step hb9)
        have G9 := Lib.hid hg9
        have GR := Lib.hid hr9
        have HL9 : Hid (Value.ownBlock u6 ≠ some g9) := fun e => absurd (own_lt J2.out.vs.own e) (by omega)
        clear HGV KC a0 a1 a2 a3 a4 k0 ew hg9 hr9 hb9 lb0 lb1 lbb J2
        generalize wc = w2 at *
        cases hg : keyAt x q.p with
        | none =>
          have HV : Hid (valsR ks x = none) := by unfold Hid; rw [HVX.out, HA.out, HVA.out, hg]; rfl
          clear hg
          go_wp2_with fail
          go_ret2
          exact ⟨_, by rw [HV.out]; rfl, fun ys h => by rw [HV.out] at h; (cases h), J3.out.vs.bel⟩
        | some y =>
          have HV : Hid (valsAt x ks = (valsAt x (ks.drop (i + 1))).map ((ps.map Prod.snd ++ [y]) ++ ·)) := by
            unfold Hid
            rw [HA.out, HVA.out, hg]
            simp [Option.map_map, Function.comp_def]
          have HRY := Lib.hid (GR.out y hg)
          clear hg
          obtain ⟨g0, g1, g2, g3, g4⟩ := VAt.of_blk G9.out
          simp only [Nat.zero_add] at g0 g1 g2 g3 g4
          have hlo : w.heap.size ≤ w2.heap.size := J3.out.vs.bel.size
          have hpi : ps.length ≤ 8 := by have := HPL.out; omega
          have LK := Lib.hid (J3.out.step ((Below.refl w2.heap.size w2).alloc (Nat.le_refl _) (Obj.cells c9.arr 46)))
          have HRZ : Hid (RV (fun b => Value.ownBlock u6 ≠ some b) (w2.alloc (Obj.cells c9.arr 46)) c9 y) := ((HRY.out.alloc _).mono fun b hb => J3.out.vs.far (.inl hb))
          go_wp2_with (at_builtin; refine wpList_append_any _ rfl _ _ 28 rfl w.heap.size 46 i0 VC.zero.val 5 80 Tryz.underlying28 hi0 hy0 hy1 hy2 rfl (by decide) u6 ps.length (flat recV ps) rfl LK.out.vs.own _ _ 1 _ (recV (c9, y)) rfl ⟨rfl, fun _ => ⟨_, rfl, Nat.lt_succ_self _, news_at _ _ _⟩⟩ (recV_one _) (by unfold maxLen; omega) (by omega) (alloc_le hlo _) ?_)
          intro v' w4 hown hgr hat
          have HI := Lib.hid (LK.out.add (p := (c9, y)) HRZ.out rfl hown hgr (by rw [size_alloc]; exact hat))
          clear hown hgr hat LK HRZ g0 g1 g2 g3 g4 HRY GR G9 J3
          go_wp2_with fail
          go_roundw
          case rel => exact ⟨i + 1, ps ++ [(c9, y)], hlt, by rw [List.length_append, HPL.out]; rfl, by go_num, by rw [HV.out]; simp, HI.out⟩
          case measure => simp [intOf]; omega
    · obtain rfl : i = n := by omega
      have HV : Hid (valsR ks x = some (ps.map Prod.snd)) := by
        unfold Hid
        rw [HVX.out, HA.out, List.drop_of_length_le (by have := HN.out; omega), valsAt]
        simp
      obtain ⟨A1, c1, hu6, hsl⟩ := J2.out.vs.sl (by have := HPL.out; omega)
      have HSL := Lib.hid hsl
      subst hu6
      clear hsl
      go_wp2_with fail
      go_ret2
      exact ⟨_, by rw [HV.out]; rfl, fun ys h => by rw [HV.out] at h; exact ⟨ps, A1, ps.length, c1, Option.some.inj h, rfl, HSL.out⟩, J2.out.vs.bel⟩

end Go.Proofs.YtlmmgjgkmbmgpaaGreatDoor

/- The contract of shardkey.Encode. -/
namespace Go.Proofs.YtlmmgjgkmbmgpaaGreatDoor
open Go.RowKit

noncomputable def intH (y : Val) : Val := .mk 3 (hashV y) ByteArray.empty [] []
noncomputable def intC (y : Val) : VC := ⟨3, hashV y, ByteArray.empty, none, 0, 0, none, 0, 0⟩
theorem rv_int {F : Nat → Prop} {w : World} (y : Val) : RV F w (intC y) (intH y) :=
  RVs.shut ⟨rfl, rfl, rfl, by show 0 ≤ reach; decide, rfl, Nat.le_refl _, by show 0 * 80 ≤ reach; decide, fun h => absurd h (by show ¬ (0 < 0); omega), rfl, Nat.le_refl _, by show 0 * 96 ≤ reach; decide, fun h => absurd h (by show ¬ (0 < 0); omega)⟩
noncomputable def hashes (ha : Bool) (ys : List Val) : List Val := if ha then ys.map intH else ys
noncomputable def encR (ks : List Od) (ha : Bool) (x : Val) : ByteArray × Int := match valsR ks x with
  | none => (ByteArray.empty, 8)
  | some ys => keyR (hashes ha ys)
theorem encR_none {ks : List Od} {ha : Bool} {x : Val} (h : valsR ks x = none) : encR ks ha x = (ByteArray.empty, 8) := by rw [encR, h]
theorem encR_some {ks : List Od} {ha : Bool} {x : Val} {ys : List Val} (h : valsR ks x = some ys) : encR ks ha x = keyR (hashes ha ys) := by rw [encR, h]
theorem hashes_yes (ys : List Val) (y : Val) : hashes true (ys ++ [y]) = hashes true ys ++ [intH y] := by simp [hashes]
theorem hashes_no (ys : List Val) : hashes false ys = ys := rfl
theorem hashes_len (ha : Bool) (ys : List Val) : (hashes ha ys).length = ys.length := by cases ha <;> simp [hashes]

theorem kinfo_bool : (Tryz.prog.info? 4).map (fun i => (i.zero, i.size, i.bytes)) = some (some (.bool false), 1, 1) := by kernel_rfl
theorem sx_made (w : World) (n : Nat) : SR 1 recX (w.alloc (.cells (madeCells #[.bool false] n) 4)) (some ⟨w.heap.size, 0, none⟩) n n (List.replicate n false) := by
  refine ⟨by simp, Nat.le_refl _, fun _ => ⟨w.heap.size, 0, rfl, by simp, fun i a hi j v hj => ?_⟩⟩
  cases j with
  | zero =>
    rw [Blk.cell (Blk.new _ _ _)]
    rw [List.getElem?_replicate] at hi
    split at hi
    · rename_i hl
      cases hi
      simp [recX] at hj
      subst hj
      simp [madeCells, hl, Nat.mod_one]
    · cases hi
  | succ j => simp [recX] at hj

set_option maxRecDepth 100000 in
set_option maxHeartbeats 4000000 in
theorem senc_any (ks : List Od) (ha : Bool) (A : Option Addr) (n cc : Nat) (x : Val) (c : VC) (w : World) (hT : Tabs w) (hk : KS w A n cc ks) (hx : RW w c x) (h8 : ks.length ≤ 8) :
    Calls Tryz.prog 67 #[.agg #[.slice A n cc, .bool ha], c.val] w fun e w' => e = .returned (.tuple #[.string (encR ks ha x).1, .int .i64 (encR ks ha x).2]) ∧ Below w.heap.size w w' := by
  obtain ⟨i0, hi0, hy0, hy1, hy2⟩ := info_parts info_value
  have HT := Lib.hid hT
  have HN := Lib.hid hk.ln
  have HX := Lib.hid hx
  have HK := Lib.hid hk
  have HKX : Hid (c.k = x.k) := hx.open.k
  have hn8 : n ≤ 8 := by have := HN.out; omega
  have I0 : Hid (VlI w #[.slice A n cc, .bool ha] c (.slice none 0 0) [] ((w.alloc (Obj.cells #[.slice A n cc, .bool ha] 24)).alloc (Obj.cells c.arr 46))) := VlI.start
  clear hk hx hT
  go_enter Tryz.func67, Tryz.ntmps67
  go_upto_region 1 with fail
  change Code.wp _ _ _ _ ((w.alloc (Obj.cells #[.slice A n cc, .bool ha] 24)).alloc (Obj.cells c.arr 46))
  generalize ((w.alloc (Obj.cells #[.slice A n cc, .bool ha] 24)).alloc (Obj.cells c.arr 46)) = wa at *
  obtain ⟨a0, a1, a2, a3, a4⟩ := VAt.of_blk I0.out.b1
  simp only [Nat.zero_add] at a0 a1 a2 a3 a4
  by_cases h5 : c.k = 5
  rotate_left
  · have h5b : (c.k != 5) = true := by simp [h5]
    have HV : Hid (encR ks ha x = (ByteArray.empty, 8)) := encR_none (valsR_kind (by rw [← HKX.out]; exact h5))
    clear h5
    go_wp2_with fail
    go_ret2
    exact ⟨by rw [HV.out]; rfl, I0.out.vs.bel⟩
  have h5b : (c.k != 5) = false := by simp [h5]
  have HX5 : Hid (x.k = 5) := by unfold Hid; rw [← HKX.out]; exact h5
  clear h5
  have hva := Lib.hid (valid_any x c wa (HT.out.step I0.out.vs.bel) (HX.out.step I0.out.vs.bel))
  cases hv : validV x
  · have HV : Hid (encR ks ha x = (ByteArray.empty, 8)) := encR_none (valsR_bad hv)
    rw [hv] at hva
    clear hv
    go_wp2_with fail
    refine hva.out.mono ?_
    rintro e w1 ⟨rfl, hb⟩
    have I1 := Lib.hid (I0.out.step hb)
    clear hva hb a0 a1 a2 a3 a4
    go_wp2_with fail
    go_ret2
    exact ⟨by rw [HV.out]; rfl, I1.out.vs.bel⟩
  have HVX : Hid (valsR ks x = valsAt x ks) := valsR_yes HX5.out hv
  rw [hv] at hva
  clear hv
  go_wp2_with fail
  refine hva.out.mono ?_
  rintro e w1 ⟨rfl, hb⟩
  have I1 := Lib.hid (I0.out.step hb)
  clear hva hb a0 a1 a2 a3 a4 I0
  have k0 := I1.out.b0.cell 0
  simp at k0
  go_upto_region 5 with fail
  clear k0
  go_loopw [6, 8, 9, 10, 22] (fun u6 _ _ _ u22 wr => ∃ (i : Nat) (ys : List Val) (ps : List PV), i ≤ n ∧ ys.length = i ∧ ps.map Prod.snd = hashes ha ys ∧ u22 = .int .i64 i ∧ valsAt x ks = (valsAt x (ks.drop i)).map (ys ++ ·) ∧ VlI w #[.slice A n cc, .bool ha] c u6 ps wr) (fun _ _ _ _ u22 _ => n - (intOf u22).toNat)
  case atStart => exact ⟨0, [], [], Nat.zero_le _, rfl, by cases ha <;> rfl, rfl, by simp, I1.out⟩
  case round =>
    obtain ⟨i, ys, ps, hi, hyl, hps, rfl, hall, J⟩ := hrel
    have HYL := Lib.hid hyl
    have HPS := Lib.hid hps
    have HPL : Hid (ps.length = i) := by have := congrArg List.length hps; rw [List.length_map, hashes_len, hyl] at this; exact this
    have HA := Lib.hid hall
    have J2 := Lib.hid J
    clear hyl hps hall J I1
    by_cases hlt : i < n
    · obtain ⟨os, hos⟩ := HK.out
      obtain ⟨b, off, o, hA, hb, ho, e0, e1⟩ := hos.sr.at2 hlt
      subst hA
      obtain ⟨q, hq⟩ : ∃ q, ks[i]? = some q := ⟨_, List.getElem?_eq_getElem (by have := HN.out; omega)⟩
      have HOR := Lib.hid (hos.el i o q ho hq)
      have HVA := Lib.hid (valsAt_at (x := x) hq)
      have ew := (J2.out.vs.bel.cell (p := ⟨b, off + i * 2, none⟩) hb).trans e0
      have ew1 := (J2.out.vs.bel.cell (p := ⟨b, off + i * 2 + 1, none⟩) hb).trans e1
      have hbw : b < wr.heap.size := Nat.lt_of_lt_of_le hb J2.out.vs.bel.size
      have i0' : (0 : Int) ≤ (i : Int) := by omega
      have i1' : (i : Int) < (n : Int) := by omega
      clear hos ho hq e0 e1
      go_upto_region 7 with fail
      change Code.wp _ _ _ _ (wr.alloc (Obj.cells #[.slice o.A o.n o.c, .bool o.d] 130))
      have JB : Hid (Blk (wr.alloc (Obj.cells #[.slice o.A o.n o.c, .bool o.d] 130)) wr.heap.size 130 #[.slice o.A o.n o.c, .bool o.d]) := Blk.new_at rfl
      have J3 := Lib.hid (J2.out.step ((Below.refl wr.heap.size wr).alloc (Nat.le_refl _) (Obj.cells #[.slice o.A o.n o.c, .bool o.d] 130)))
      generalize wr.alloc (Obj.cells #[.slice o.A o.n o.c, .bool o.d] 130) = wb at *
      generalize wr.heap.size = ga at *
      clear ew ew1 hbw J2
      obtain ⟨a0, a1, a2, a3, a4⟩ := VAt.of_blk J3.out.b1
      simp only [Nat.zero_add] at a0 a1 a2 a3 a4
      have o0 := JB.out.cell 0
      simp at o0
      have HAT := Lib.hid (at_any (F := fun b => b < w.heap.size) x c o.A o.n o.c q.p wb ((HX.out.lt.mono fun b hb => hb.2).keep fun b hb => J3.out.vs.bel.block b hb) (HOR.out.st.step J3.out.vs.bel))
      go_wp2_with fail
      refine HAT.out.mono ?_
      rintro e w2 ⟨c9, rfl, hr, hb⟩
      have J4 := Lib.hid (J3.out.step hb)
      have HR9 : Hid (∀ y, keyAt x q.p = some y → RV (fun b => Value.ownBlock u6 ≠ some b) w2 c9 y) := fun y hy => (hr y hy).mono fun b hb => J3.out.vs.far hb
      clear hr hb HAT a0 a1 a2 a3 a4 o0 JB J3
      cases hg : keyAt x q.p with
      | none =>
        have HV : Hid (encR ks ha x = (ByteArray.empty, 8)) := encR_none (by rw [HVX.out, HA.out, HVA.out, hg]; rfl)
        have J5 := Lib.hid (J4.out.step ((Below.refl w2.heap.size w2).alloc (Nat.le_refl _) (Obj.cells c9.arr 46)))
        clear hg
        go_wp2_with fail
        go_ret2
        exact ⟨by rw [HV.out]; rfl, J5.out.vs.bel⟩
      | some y =>
        have HRY := Lib.hid (HR9.out y hg)
        have HV : Hid (valsAt x ks = (valsAt x (ks.drop (i + 1))).map ((ys ++ [y]) ++ ·)) := by
          unfold Hid
          rw [HA.out, HVA.out, hg]
          simp [Option.map_map, Function.comp_def]
        clear hg HR9
        have hlo2 : w.heap.size ≤ w2.heap.size := J4.out.vs.bel.size
        have NE : Hid (Value.ownBlock u6 ≠ some w2.heap.size) := J4.out.vs.far (.inr (Nat.le_refl _))
        have NG : Hid (w.heap.size + 2 ≤ w2.heap.size) := J4.out.sz
        go_upto_region 10 with fail
        change Code.wp _ _ _ _ (w2.alloc (Obj.cells c9.arr 46))
        have JB : Hid (Blk (w2.alloc (Obj.cells c9.arr 46)) w2.heap.size 46 c9.arr) := Blk.new_at rfl
        have J5 := Lib.hid (J4.out.step ((Below.refl w2.heap.size w2).alloc (Nat.le_refl _) (Obj.cells c9.arr 46)))
        have HR5 := Lib.hid (HRY.out.alloc (Obj.cells c9.arr 46))
        have BE5 : Hid (Below w2.heap.size w2 (w2.alloc (Obj.cells c9.arr 46))) := (Below.refl w2.heap.size w2).alloc (Nat.le_refl _) (Obj.cells c9.arr 46)
        generalize w2.alloc (Obj.cells c9.arr 46) = w3 at *
        have BE5 : Hid (Below w2.heap.size w2 w3) := BE5
        generalize hG9 : w2.heap.size = g9 at *
        have HG9 := Lib.hid hG9
        clear hG9 NE NG
        have k1 := J5.out.b0.cell 1
        simp at k1
        have hpi : ps.length ≤ 8 := by have := HPL.out; omega
        clear HRY
        cases ha
        · obtain ⟨g0, g1, g2, g3, g4⟩ := VAt.of_blk JB.out
          simp only [Nat.zero_add] at g0 g1 g2 g3 g4
          have hlo : w.heap.size ≤ w3.heap.size := J5.out.vs.bel.size
          have LK := Lib.hid (J5.out.step ((Below.refl w3.heap.size w3).alloc (Nat.le_refl _) (Obj.cells c9.arr 46)))
          have HRZ := Lib.hid (HR5.out.alloc (Obj.cells c9.arr 46))
          go_wp2_with (at_builtin; refine wpList_append_any _ rfl _ _ 28 rfl w.heap.size 46 i0 VC.zero.val 5 80 Tryz.underlying28 hi0 hy0 hy1 hy2 rfl (by decide) u6 ps.length (flat recV ps) rfl LK.out.vs.own _ _ 1 _ (recV (c9, y)) rfl ⟨rfl, fun _ => ⟨_, rfl, Nat.lt_succ_self _, news_at _ _ _⟩⟩ (recV_one _) (by unfold maxLen; omega) (by omega) (alloc_le hlo _) ?_)
          intro v' w4 hown hgr hat
          have HI := Lib.hid (LK.out.add (p := (c9, y)) HRZ.out rfl hown hgr (by rw [size_alloc]; exact hat))
          clear hown hgr hat LK HRZ g0 g1 g2 g3 g4 HR5 JB J5 k1
          go_wp2_with fail
          go_roundw
          case rel => exact ⟨i + 1, ys ++ [y], ps ++ [(c9, y)], hlt, by rw [List.length_append, HYL.out]; rfl, by rw [List.map_append, HPS.out]; rfl, by go_num, by rw [HV.out], HI.out⟩
          case measure => simp [intOf]; omega
        · obtain ⟨g0, g1, g2, g3, g4⟩ := VAt.of_blk JB.out
          simp only [Nat.zero_add] at g0 g1 g2 g3 g4
          have HHA := Lib.hid (hash_any y c9 w3 (HT.out.step J5.out.vs.bel) (HR5.out.mono fun _ _ => trivial))
          go_wp2_with fail
          refine HHA.out.mono ?_
          rintro e w4 ⟨rfl, hb⟩
          have J6 := Lib.hid (J5.out.step hb)
          have hb4 := Lib.hid hb
          have JB2 := Lib.hid (JB.out.step hb)
          clear g0 g1 g2 g3 g4 hb HHA HR5 JB J5 k1
          obtain ⟨g0, g1, g2, g3, g4⟩ := VAt.of_blk JB2.out
          simp only [Nat.zero_add] at g0 g1 g2 g3 g4
          have gz := JB2.out.frozen
          obtain ⟨hh, hhe⟩ : ∃ h, hashV y = h := ⟨_, rfl⟩
          rw [hhe]
          have HHE := Lib.hid hhe
          clear hhe
          go_upto_region 12 with fail
          have BE6 : Hid (Below w2.heap.size w2 (setV w4 g9 0 ⟨3, hh, ByteArray.empty, none, 0, 0, none, 0, 0⟩)) := by
            have h5 := BE5.out
            rw [← HG9.out] at h5
            exact below_setV (h5.step' hb4.out) (by rw [HG9.out]; exact Nat.le_refl _) 0 _
          have J7 := Lib.hid (J4.out.step BE6.out)
          have JB3 := Lib.hid (JB2.out.putV ⟨3, hh, ByteArray.empty, none, 0, 0, none, 0, 0⟩)
          change Code.wp _ _ _ _ (setV w4 g9 0 ⟨3, hh, ByteArray.empty, none, 0, 0, none, 0, 0⟩)
          generalize setV w4 g9 0 ⟨3, hh, ByteArray.empty, none, 0, 0, none, 0, 0⟩ = w5 at *
          clear g0 g1 g2 g3 g4 gz BE6 BE5 J6 JB2 hb4 J4
          obtain ⟨g0, g1, g2, g3, g4⟩ := VAt.of_blk JB3.out
          simp only [Nat.zero_add] at g0 g1 g2 g3 g4
          have hlo : w.heap.size ≤ w5.heap.size := J7.out.vs.bel.size
          have LK := Lib.hid (J7.out.step ((Below.refl w5.heap.size w5).alloc (Nat.le_refl _) (Obj.cells (VC.arr ⟨3, hh, ByteArray.empty, none, 0, 0, none, 0, 0⟩) 46)))
          go_wp2_with (at_builtin; refine wpList_append_any _ rfl _ _ 28 rfl w.heap.size 46 i0 VC.zero.val 5 80 Tryz.underlying28 hi0 hy0 hy1 hy2 rfl (by decide) u6 ps.length (flat recV ps) rfl LK.out.vs.own _ _ 1 _ (recV (⟨3, hh, ByteArray.empty, none, 0, 0, none, 0, 0⟩, intH y)) rfl ⟨rfl, fun _ => ⟨_, rfl, Nat.lt_succ_self _, news_at _ _ _⟩⟩ (recV_one _) (by unfold maxLen; omega) (by omega) (alloc_le hlo _) ?_)
          intro v' w6 hown hgr hat
          have HI := Lib.hid (LK.out.add (p := (⟨3, hh, ByteArray.empty, none, 0, 0, none, 0, 0⟩, intH y)) (by rw [← HHE.out]; exact rv_int y) rfl hown hgr (by rw [size_alloc]; exact hat))
          clear hown hgr hat LK g0 g1 g2 g3 g4 JB3 J7
          go_wp2_with fail
          go_roundw
          case rel => exact ⟨i + 1, ys ++ [y], ps ++ [(⟨3, hh, ByteArray.empty, none, 0, 0, none, 0, 0⟩, intH y)], hlt, by rw [List.length_append, HYL.out]; rfl, by rw [List.map_append, HPS.out, hashes_yes]; rfl, by go_num, by rw [HV.out], HI.out⟩
          case measure => simp [intOf]; omega
    · obtain rfl : i = n := by omega
      have HV : Hid (encR ks ha x = keyR (ps.map Prod.snd)) := by
        rw [HPS.out]
        refine encR_some ?_
        rw [HVX.out, HA.out, List.drop_of_length_le (by have := HN.out; omega), valsAt]
        simp
      obtain ⟨A1, c1, hu6, hsl⟩ := J2.out.vs.sl (by have := HPL.out; omega)
      rw [HPL.out] at hu6 hsl
      have HSL := Lib.hid hsl
      subst hu6
      clear hsl
      go_upto_region 14 with fail
      obtain ⟨j0, hj0, hz0, hz1, hz2⟩ := info_parts kinfo_bool
      have hmk := run_make_rowN (P := Tryz.prog) 139 4 j0 (.bool false) Tryz.underlying139 hj0 hz0 i (by rw [hz2]; omega) (by omega)
      rw [hz1, Nat.mul_one] at hmk
      have LK := Lib.hid (J2.out.step ((Below.refl wr.heap.size wr).alloc (Nat.le_refl _) (.cells (madeCells #[.bool false] i) 4)))
      have hec := encode_any ps A1 (some ⟨wr.heap.size, 0, none⟩) i c1 i (wr.alloc (.cells (madeCells #[.bool false] i) 4)) (HT.out.step LK.out.vs.bel) (HSL.out.step ((Below.refl wr.heap.size wr).alloc (Nat.le_refl _) _)) (sx_made wr i) (by omega)
      rw [← HV.out] at hec
      have HEC := Lib.hid hec
      obtain ⟨⟨K1, K2⟩, hK⟩ : ∃ K, encR ks ha x = K := ⟨_, rfl⟩
      rw [hK] at HEC
      have HKK := Lib.hid hK
      clear hK HV hec
      go_wp2_with fail
      refine HEC.out.mono ?_
      rintro e w5 ⟨rfl, hb⟩
      have CE := Lib.hid (LK.out.vs.bel.step' hb)
      clear hb HEC LK J2 HSL hmk
      go_wp2_with fail
      go_ret2
      exact ⟨by rw [HKK.out]; rfl, CE.out⟩

end Go.Proofs.YtlmmgjgkmbmgpaaGreatDoor

/- What the first checks of the layers shardkey and router compute, at closed arguments. -/
namespace Go.Proofs.YtlmmgjgkmbmgpaaGreatDoor
open Go.RowKit

def ka : ByteArray := ⟨#[97]⟩
def vI (n : Int) : Val := .mk 3 n ByteArray.empty [] []
def cI (n : Int) : VC := ⟨3, n, ByteArray.empty, none, 0, 0, none, 0, 0⟩
def vD (n : Int) : Val := .mk 5 0 ByteArray.empty [] [.mk ka (vI n)]
def ks1 : List Od := [⟨[ka], false⟩]
theorem sound_i (n : Int) : SoundV nameB (vI n) := (SoundV_iff _ _).2 ⟨⟨.inl rfl, .inr (.inr (.inr rfl)), .inr rfl, .inr rfl, .inr (.inr (.inr (.inl rfl)))⟩, by simp [vI, Val.l], by simp [vI, Val.d], by simp [vI, Val.d, NamesP]⟩
theorem sound_null : SoundV nameB nullV := (SoundV_iff _ _).2 ⟨by simp [HeadP, nullV, Val.k, Val.n, Val.t, Val.l, Val.d], by simp [nullV, Val.l], by simp [nullV, Val.d], by simp [nullV, Val.d, NamesP]⟩
theorem sound_d (n : Int) : SoundV nameB (vD n) := (SoundV_iff _ _).2 ⟨⟨.inr (.inr (.inr rfl)), .inr (.inr (.inr rfl)), .inr rfl, .inl rfl, by simp [vD, Val.k]⟩, by simp [vD, Val.l], by intro f hf; simp [vD, Val.d] at hf; subst hf; exact sound_i n, by
    refine ⟨fun f hf => ?_, by simp [vD, Val.d]⟩
    simp [vD, Val.d] at hf
    subst hf
    show nameB ka = true
    kernel_rfl⟩
theorem valid_i (n : Int) : validV (vI n) = true := by
  have h1 : (vI n).size = 1 := by simp [vI, Val.size]
  have h2 : (vI n).height = 1 := by simp [vI, Val.height]
  unfold validV
  rw [decide_eq_true (by omega), decide_eq_true (by omega), soundB_true (sound_i n)]
  rfl
theorem valid_null : validV nullV = true := by
  have h1 : nullV.size = 1 := by simp [nullV, Val.size]
  have h2 : nullV.height = 1 := by simp [nullV, Val.height]
  unfold validV
  rw [decide_eq_true (by omega), decide_eq_true (by omega), soundB_true sound_null]
  rfl
theorem valid_dn (n : Int) : validV (vD n) = true := by
  have h1 : (vD n).size = 2 := by simp [vD, vI, Val.size, sizeD, sizeF]
  have h2 : (vD n).height = 2 := by simp [vD, vI, Val.height, heightD, heightF]
  unfold validV
  rw [decide_eq_true (by omega), decide_eq_true (by omega), soundB_true (sound_d n)]
  rfl
theorem allow_valid {x : Val} (h : validV x = true) : allowB x = true := by unfold allowB; rw [h, Bool.or_true]
theorem keyR_i (n : Int) : keyR [vI n] = (strOfNums (encAll [vI n]), 0) := keyR_yes (by unfold allowsB; simp [allow_valid (valid_i n)])
theorem at_d (n : Int) : keyAt (vD n) [ka] = some (vI n) := by
  have h : getV (vD n) ka = some (vI n) := by
    refine getV_some (j := 0) (f := .mk ka (vI n)) ?_ rfl
    kernel_rfl
  rw [keyAt_some (by show (5 : Int) ≠ 6; decide) h, keyAt_end (by show (3 : Int) ≠ 6; decide)]
theorem vals_d (n : Int) : valsR ks1 (vD n) = some [vI n] := by
  rw [valsR_yes rfl (valid_dn n), ks1, valsAt, at_d]
  rfl
theorem enc_d (n : Int) : encR ks1 false (vD n) = (strOfNums (encAll [vI n]), 0) := by rw [encR_some (vals_d n), hashes_no, keyR_i]
theorem key5_eq : strOfNums (encAll [vI 5]) = ⟨#[3, 128, 0, 0, 0, 0, 0, 0, 5]⟩ := by kernel_rfl
theorem key10_eq : strOfNums (encAll [vI 10]) = ⟨#[3, 128, 0, 0, 0, 0, 0, 0, 10]⟩ := by kernel_rfl
theorem key9_eq : strOfNums (encAll [vI 9]) = ⟨#[3, 128, 0, 0, 0, 0, 0, 0, 9]⟩ := by kernel_rfl
theorem key3_eq : strOfNums (encAll [vI 3]) = ⟨#[3, 128, 0, 0, 0, 0, 0, 0, 3]⟩ := by kernel_rfl
theorem key11_eq : strOfNums (encAll [vI 11]) = ⟨#[3, 128, 0, 0, 0, 0, 0, 0, 11]⟩ := by kernel_rfl
theorem hash_diff : hashV nullV ≠ hashV (vI 5) := by
  unfold hashV
  rw [if_pos (allow_valid valid_null), if_pos (allow_valid (valid_i 5))]
  have h : (((crcSum (strOfNums (encV nullV)) : Nat) : Int) == ((crcSum (strOfNums (encV (vI 5))) : Nat) : Int)) = false := by kernel_rfl
  simpa using h
theorem keyE_ks1 : keyE ks1 false = 0 := by kernel_rfl
theorem keyE_nil : keyE [] false = 11 := by kernel_rfl
end Go.Proofs.YtlmmgjgkmbmgpaaGreatDoor

/- The contract of the reference's One. -/
namespace Go.Proofs.YtlmmgjgkmbmgpaaGreatDoor
open Go.RowKit

theorem str_app1 {S A : ByteArray} {l m : List Int} (h : S = strOfNums l) (h2 : A = strOfNums m) : S ++ A = strOfNums (l ++ m) := by rw [h, h2, strOfNums_append]
/-- the value's block -/
structure OnI (w : World) (c : VC) (wr : World) : Prop where
  b0 : Blk wr w.heap.size 46 c.arr
  bel : Below w.heap.size w wr
theorem OnI.step {w wr w' : World} {c : VC} (h : OnI w c wr) (hb : Below wr.heap.size wr w') : OnI w c w' := ⟨h.b0.step hb, h.bel.step' hb⟩

set_option maxRecDepth 100000 in
set_option maxHeartbeats 4000000 in
theorem rone_any (x : Val) : ∀ (c : VC) (w : World), RW w c x → Enc1 x → (encV x).length ≤ 100000000 →
    Calls Tryz.prog 128 #[c.val] w fun e w' => e = .returned (.string (strOfNums (encV x))) ∧ Below w.heap.size w w' := by
  induction x using Val.ind with
  | h k n t l d ihl ihd =>
    intro c w h he htot
    obtain ⟨ck, cn, ct, LA, ln, lc, DA, dn, dc⟩ := c
    have ho := h.open
    obtain rfl : ck = k := ho.k
    obtain rfl : cn = n := ho.n
    obtain rfl : ct = t := ho.t
    have hkind := he.kind
    simp only [Val.k] at hkind
    have htx := he.text
    simp only [Val.t] at htx
    obtain ⟨T, hT⟩ : ∃ T, encV (.mk ck cn ct l d) = ck :: T := ⟨_, encV_eq _⟩
    rw [hT] at htot ⊢
    rw [List.length_cons] at htot
    have HE := Lib.hid hT
    have HO := Lib.hid ho
    have HEN := Lib.hid he
    have HTO := Lib.hid htot
    clear h he ho hT
    have I0 : Hid (OnI w ⟨ck, cn, ct, LA, ln, lc, DA, dn, dc⟩ (w.alloc (Obj.cells #[.int .i64 ck, .int .i64 cn, .string ct, .slice LA ln lc, .slice DA dn dc] 46))) := ⟨Blk.new_at rfl, (Below.refl _ _).alloc (Nat.le_refl _) _⟩
    clear htot
    go_enter Tryz.func128, Tryz.ntmps128
    go_upto_region 1 with fail
    change (Code.region 1 _ _).wp _ _ _ (w.alloc (Obj.cells #[.int .i64 ck, .int .i64 cn, .string ct, .slice LA ln lc, .slice DA dn dc] 46))
    obtain ⟨w0, hw0⟩ : ∃ w0, w.alloc (Obj.cells #[.int .i64 ck, .int .i64 cn, .string ct, .slice LA ln lc, .slice DA dn dc] 46) = w0 := ⟨_, rfl⟩
    rw [hw0] at I0 ⊢
    clear hw0
    have hk8 : ck % 256 = ck := by omega
    obtain ⟨b0, b1, b2, b3, b4⟩ := VAt.of_blk I0.out.b0
    simp only [Nat.zero_add] at b0 b1 b2 b3 b4
    have hcv := str1 ck w0 Tryz.underlying5
    obtain ⟨K, hK⟩ : ∃ K, K = strOfNums [ck] := ⟨_, rfl⟩
    rw [← hK] at hcv
    have hKs : K.size = 1 := by rw [hK, strOfNums_size]; rfl
    have HK := Lib.hid hK
    clear hK
    go_upto_region 2 with fail
    have I1 := Lib.hid (I0.out.step ((Below.refl w0.heap.size w0).alloc (Nat.le_refl _) (Obj.cells #[.int .u8 ck] 5)))
    generalize w0.alloc (Obj.cells #[.int .u8 ck] 5) = w1 at *
    clear b0 b1 b2 b3 b4 hcv I0
    obtain ⟨b0, b1, b2, b3, b4⟩ := VAt.of_blk I1.out.b0
    simp only [Nat.zero_add] at b0 b1 b2 b3 b4
    by_cases k3 : ck = 3 ∨ ck = 9 ∨ ck = 10
    · have hT : T = nums cn := by have := HE.out.symm.trans (encT_num k3); simpa using this
      have HEQ : Hid (strOfNums (ck :: T) = K ++ strOfNums (nums cn)) := by unfold Hid; rw [hT, HK.out, ← strOfNums_append]; rfl
      have hz2 : ¬ (9223372036854775807 < K.size + (strOfNums (nums cn)).size) := by rw [strOfNums_size, nums, numsTo_len]; omega
      clear hT HTO HE hKs
      rcases k3 with rfl | rfl | rfl
      all_goals
        go_upto_region 6 with fail
        go_wp2_with fail
        refine (rnumber_any cn _).mono ?_
        rintro e w2 ⟨rfl, hb2⟩
        have I2 := Lib.hid (I1.out.step hb2)
        clear b0 b1 b2 b3 b4 I1 hb2
        go_wp2_with fail
        go_ret
        exact ⟨by rw [HEQ.out]; rfl, I2.out.bel⟩
    by_cases k4 : ck = 4 ∨ ck = 7 ∨ ck = 8
    · have hT : T = textN ct.data.toList ++ [0, 0] := by have := HE.out.symm.trans (encT_text k4); simpa using this
      have HEQ : Hid (strOfNums (ck :: T) = K ++ strOfNums (textN ct.data.toList ++ [0, 0])) := by unfold Hid; rw [hT, HK.out, ← strOfNums_append]; rfl
      have hz2 : ¬ (9223372036854775807 < K.size + (strOfNums (textN ct.data.toList ++ [0, 0])).size) := by
        have h2 := textN_len ct.data.toList
        rw [dsize] at h2
        rw [strOfNums_size, List.length_append]
        simp only [List.length_cons, List.length_nil]
        omega
      have HTX := Lib.hid htx
      clear hT HTO HE hKs k3 htx
      rcases k4 with rfl | rfl | rfl
      all_goals
        go_upto_region 10 with fail
        go_wp2_with fail
        refine (rtext_any ct _ HTX.out).mono ?_
        rintro e w2 ⟨rfl, hb2⟩
        have I2 := Lib.hid (I1.out.step hb2)
        clear b0 b1 b2 b3 b4 I1 hb2
        go_wp2_with fail
        go_ret
        exact ⟨by rw [HEQ.out]; rfl, I2.out.bel⟩
    by_cases k6 : ck = 6
    · subst k6
      have hT : T = encL l ++ [0] := by have := HE.out.symm.trans (encT_list (k := 6) rfl); simpa using this
      have hnb : (encL l).length + 1 ≤ 100000000 := by have := HTO.out; rw [hT, List.length_append] at this; simp only [List.length_cons, List.length_nil] at this; omega
      have HEQ : Hid (strOfNums (6 :: T) = K ++ strOfNums (encL l) ++ strOfNums [0]) := by unfold Hid; rw [hT, HK.out, ← strOfNums_append, ← strOfNums_append]; simp
      have HNB := Lib.hid hnb
      clear hT HTO HE k3 k4 hnb
      obtain ⟨ps, hps, hsl⟩ := (RVs.shut HO.out).sl
      simp only [Val.l] at hps
      have SLh := Lib.hid hsl
      have HPS := Lib.hid hps
      have HLL : Hid (ln = ps.length) := hsl.sr.ln
      have hlz : (ln : Int) ≤ 1759218604441 := by have := hsl.sz; unfold reach at this; simp only at this; omega
      clear hps hsl
      go_upto_region 13 with fail
      clear b0 b1 b2 b3 b4
      go_loopw [3, 4] (fun u3 u4 wr => ∃ i : Nat, i ≤ ln ∧ u4 = .int .i64 i ∧ u3 = .string (K ++ strOfNums (encL (l.take i))) ∧ OnI w ⟨6, cn, ct, LA, ln, lc, DA, dn, dc⟩ wr) (fun _ u4 _ => ln - (intOf u4).toNat)
      case atStart => exact ⟨0, Nat.zero_le _, rfl, by simp [encL, strOfNums_nil], I1.out⟩
      case round =>
        obtain ⟨i, hi, rfl, rfl, J⟩ := hrel
        have J2 := Lib.hid J
        clear J
        obtain ⟨b0, b1, b2, b3, b4⟩ := VAt.of_blk J2.out.b0
        simp only [Nat.zero_add] at b0 b1 b2 b3 b4
        obtain ⟨S, hS⟩ : ∃ S, S = K ++ strOfNums (encL (l.take i)) := ⟨_, rfl⟩
        rw [← hS]
        have hSz : S.size ≤ 1 + (encL l).length := by
          have h2 := encL_take_le l i
          rw [hS, ByteArray.size_append, strOfNums_size]
          omega
        have hSb : S.size ≤ 100000000 := by have := HNB.out; omega
        have HS := Lib.hid hS
        clear hS hSz
        by_cases hlt : i < ln
        · obtain ⟨p, hp⟩ : ∃ p, ps[i]? = some p := ⟨_, List.getElem?_eq_getElem (by have := HLL.out; omega)⟩
          obtain ⟨b, off, hLA, hbF, hat, hrv⟩ := SLh.out.vat hp
          subst hLA
          have hpl : l[i]? = some p.2 := by rw [← HPS.out, List.getElem?_map, hp]; rfl
          have hmem := List.mem_of_getElem? hpl
          have hSN := encL_snoc hpl
          have hbd : (encV p.2).length ≤ 100000000 := by
            have h2 := encL_take_le l (i + 1)
            rw [hSN, List.length_append, List.length_cons] at h2
            have h6 := HNB.out
            omega
          obtain ⟨q0, q1, q2, q3, q4⟩ := hat.step J2.out.bel
          obtain ⟨Y, hY⟩ : ∃ Y, Y = strOfNums (encV p.2) := ⟨_, rfl⟩
          have hYs : Y.size ≤ 100000000 := by rw [hY, strOfNums_size]; exact hbd
          have hcal := ihl p.2 hmem p.1 wr (hrv.step J2.out.bel) (HEN.out.list p.2 hmem) hbd
          rw [← hY] at hcal
          have HCA := Lib.hid hcal
          have HEQS : Hid (K ++ strOfNums (encL (l.take (i + 1))) = S ++ (⟨#[1]⟩ ++ Y)) := by
            have e : strOfNums (1 :: encV p.2) = ⟨#[1]⟩ ++ strOfNums (encV p.2) := (strOfNums_append [1] (encV p.2))
            unfold Hid
            rw [hSN, strOfNums_append, HS.out, hY, ByteArray.append_assoc, e]
          have hz1 : ¬ (9223372036854775807 < 1 + Y.size) := by omega
          have hz2 : ¬ (9223372036854775807 < S.size + (1 + Y.size)) := by omega
          have i0' : (0 : Int) ≤ (i : Int) := by omega
          have i1' : (i : Int) < (ln : Int) := by omega
          clear hp hrv hpl hmem hSN hbd hat hcal hY hYs
          go_upto_region 15 with fail
          go_wp2_with fail
          refine HCA.out.mono ?_
          rintro e w2 ⟨rfl, hb2⟩
          have I2 := Lib.hid (J2.out.step hb2)
          clear b0 b1 b2 b3 b4 q0 q1 q2 q3 q4 HCA J2 hb2
          go_wp2_with fail
          go_roundw
          case rel => exact ⟨i + 1, hlt, by go_num, by rw [HEQS.out], I2.out⟩
          case measure => simp [intOf]; omega
        · obtain rfl : i = ln := by omega
          have HTK : Hid (l.take i = l) := List.take_of_length_le (by have h1 := HLL.out; have h2 := congrArg List.length HPS.out; simp at h2; omega)
          have hz1 : ¬ (9223372036854775807 < S.size + 1) := by omega
          go_wp2_with fail
          go_ret
          exact ⟨by rw [HEQ.out, ← HTK.out, ← HS.out]; rfl, J2.out.bel⟩
    by_cases k5 : ck = 5
    · subst k5
      have hT : T = encD d ++ [0] := by have := HE.out.symm.trans (encT_doc (k := 5) rfl); simpa using this
      have hnb : (encD d).length + 1 ≤ 100000000 := by have := HTO.out; rw [hT, List.length_append] at this; simp only [List.length_cons, List.length_nil] at this; omega
      have HEQ : Hid (strOfNums (5 :: T) = K ++ strOfNums (encD d) ++ strOfNums [0]) := by unfold Hid; rw [hT, HK.out, ← strOfNums_append, ← strOfNums_append]; simp
      have HNB := Lib.hid hnb
      clear hT HTO HE k3 k4 k6 hnb
      obtain ⟨ps, hps, hsd⟩ := (RVs.shut HO.out).sd
      simp only [Val.d] at hps
      have SDh := Lib.hid hsd
      have HPS := Lib.hid hps
      have HLL : Hid (dn = ps.length) := hsd.sr.ln
      have hlz : (dn : Int) ≤ 1466015503701 := by have := hsd.sz; unfold reach at this; simp only at this; omega
      clear hps hsd
      go_upto_region 19 with fail
      clear b0 b1 b2 b3 b4
      go_loopw [3, 5] (fun u3 u5 wr => ∃ i : Nat, i ≤ dn ∧ u5 = .int .i64 i ∧ u3 = .string (K ++ strOfNums (encD (d.take i))) ∧ OnI w ⟨5, cn, ct, LA, ln, lc, DA, dn, dc⟩ wr) (fun _ u5 _ => dn - (intOf u5).toNat)
      case atStart => exact ⟨0, Nat.zero_le _, rfl, by simp [encD, strOfNums_nil], I1.out⟩
      case round =>
        obtain ⟨i, hi, rfl, rfl, J⟩ := hrel
        have J2 := Lib.hid J
        clear J
        obtain ⟨b0, b1, b2, b3, b4⟩ := VAt.of_blk J2.out.b0
        simp only [Nat.zero_add] at b0 b1 b2 b3 b4
        obtain ⟨S, hS⟩ : ∃ S, S = K ++ strOfNums (encD (d.take i)) := ⟨_, rfl⟩
        rw [← hS]
        have hSz : S.size ≤ 1 + (encD d).length := by
          have h2 := encD_take_le d i
          rw [hS, ByteArray.size_append, strOfNums_size]
          omega
        have hSb : S.size ≤ 100000000 := by have := HNB.out; omega
        have HS := Lib.hid hS
        clear hS hSz
        by_cases hlt : i < dn
        · obtain ⟨p, hp⟩ : ∃ p, ps[i]? = some p := ⟨_, List.getElem?_eq_getElem (by have := HLL.out; omega)⟩
          obtain ⟨b, off, hDA, hbF, hnm, hat, hrv⟩ := SDh.out.vat hp
          subst hDA
          have hpl : d[i]? = some p.2 := by rw [← HPS.out, List.getElem?_map, hp]; rfl
          have hmem := List.mem_of_getElem? hpl
          have hSN := encD_snoc hpl
          have hbd0 : (strN p.2.s).length + (encV p.2.v).length ≤ 100000000 := by
            have h2 := encD_take_le d (i + 1)
            rw [hSN, List.length_append, List.length_cons, List.length_append, List.length_cons] at h2
            have h6 := HNB.out
            omega
          rw [strN_len] at hbd0
          have hbd : (encV p.2.v).length ≤ 100000000 := by omega
          have hns : p.2.s.size ≤ 100000000 := by omega
          have q5 := (J2.out.bel.cell (p := ⟨b, off + i * 6, none⟩) (World.block_lt_of_cell? w _ hnm)).trans hnm
          obtain ⟨q0, q1, q2, q3, q4⟩ := hat.step J2.out.bel
          have R0 : ∀ kk : BW wr, kk.val.cell? ⟨b, off + i * 6 + 1, none⟩ = some (.int .i64 p.1.k) := fun kk => kk.cell q0
          have R1 : ∀ kk : BW wr, kk.val.cell? ⟨b, off + i * 6 + 1 + 1, none⟩ = some (.int .i64 p.1.n) := fun kk => kk.cell q1
          have R2 : ∀ kk : BW wr, kk.val.cell? ⟨b, off + i * 6 + 1 + 2, none⟩ = some (.string p.1.t) := fun kk => kk.cell q2
          have R3 : ∀ kk : BW wr, kk.val.cell? ⟨b, off + i * 6 + 1 + 3, none⟩ = some (.slice p.1.LA p.1.ln p.1.lc) := fun kk => kk.cell q3
          have R4 : ∀ kk : BW wr, kk.val.cell? ⟨b, off + i * 6 + 1 + 4, none⟩ = some (.slice p.1.DA p.1.dn p.1.dc) := fun kk => kk.cell q4
          have R5 : ∀ kk : BW wr, kk.val.cell? ⟨b, off + i * 6, none⟩ = some (.string p.2.s) := fun kk => kk.cell q5
          have R6 : ∀ kk : BW wr, kk.val.cell? ⟨w.heap.size, 4, none⟩ = some (.slice (some ⟨b, off, none⟩) dn dc) := fun kk => kk.cell b4
          obtain ⟨Y, hY⟩ : ∃ Y, Y = strOfNums (encV p.2.v) := ⟨_, rfl⟩
          have hYs : Y.size ≤ 100000000 := by rw [hY, strOfNums_size]; exact hbd
          have HCA : Hid (∀ kk : BW wr, Calls Tryz.prog 128 #[p.1.val] kk.val fun e w'' => e = .returned (.string Y) ∧ ∃ kk : BW wr, w'' = kk.val) := fun kk => by
            rw [hY]
            exact Calls.bw (ihd p.2 hmem p.1 kk.val ((hrv.step J2.out.bel).step kk.below) (HEN.out.doc p.2 hmem).1 hbd)
          have HEQS : Hid (K ++ strOfNums (encD (d.take (i + 1))) = S ++ (⟨#[1]⟩ ++ p.2.s ++ ⟨#[0]⟩ ++ Y)) := by
            have e : strOfNums (1 :: (strN p.2.s ++ 0 :: encV p.2.v)) = ⟨#[1]⟩ ++ p.2.s ++ ⟨#[0]⟩ ++ strOfNums (encV p.2.v) := by
              have h2 : 1 :: (strN p.2.s ++ 0 :: encV p.2.v) = [1] ++ strN p.2.s ++ [0] ++ encV p.2.v := by simp
              have h3 : strOfNums ([1] ++ strN p.2.s) = ⟨#[1]⟩ ++ p.2.s := (strOfNums_append [1] (strN p.2.s)).trans (congrArg (fun z => strOfNums [1] ++ z) (strOfNums_strN p.2.s))
              have h4 : strOfNums ([1] ++ strN p.2.s ++ [0]) = ⟨#[1]⟩ ++ p.2.s ++ ⟨#[0]⟩ := (strOfNums_append _ [0]).trans (congrArg (fun z => z ++ strOfNums [0]) h3)
              rw [h2]
              exact (strOfNums_append _ _).trans (congrArg (fun z => z ++ strOfNums (encV p.2.v)) h4)
            unfold Hid
            rw [hSN, strOfNums_append, HS.out, hY, ByteArray.append_assoc, e]
          obtain ⟨N, hN⟩ : ∃ N, N = p.2.s := ⟨_, rfl⟩
          rw [← hN] at R5 hns HEQS
          have hz1 : ¬ (9223372036854775807 < 1 + N.size) := by omega
          have hz2 : ¬ (9223372036854775807 < 1 + N.size + 1) := by omega
          have hz3 : ¬ (9223372036854775807 < 1 + N.size + 1 + Y.size) := by omega
          have hz4 : ¬ (9223372036854775807 < S.size + (1 + N.size + 1 + Y.size)) := by omega
          have i0' : (0 : Int) ≤ (i : Int) := by omega
          have i1' : (i : Int) < (dn : Int) := by omega
          clear hp hrv hpl hmem hSN hbd hbd0 hat hY hYs hns q0 q1 q2 q3 q4 q5 hnm hN
          go_upto_region 21 with fail
          clear b0 b1 b2 b3 b4
          refine wp_region_bw (by kernel_rfl) (by kernel_rfl) ?_
          repeat (go_big_quiet_step ((with_reducible exact HCA.out _)))
          refine wpQuiet_nil ?_
          rintro _ ⟨kw, rfl⟩
          have I2 := Lib.hid (J2.out.step kw.below)
          clear R0 R1 R2 R3 R4 R5 R6 HCA J2
          generalize kw.val = w2 at *
          clear kw
          go_wp2_with fail
          go_roundw
          case rel => exact ⟨i + 1, hlt, by go_num, by rw [HEQS.out], I2.out⟩
          case measure => simp [intOf]; omega
        · obtain rfl : i = dn := by omega
          have HTK : Hid (d.take i = d) := List.take_of_length_le (by have h1 := HLL.out; have h2 := congrArg List.length HPS.out; simp at h2; omega)
          have hz1 : ¬ (9223372036854775807 < S.size + 1) := by omega
          go_wp2_with fail
          go_ret
          exact ⟨by rw [HEQ.out, ← HTK.out, ← HS.out]; rfl, J2.out.bel⟩
    have hT : T = [] := by have := HE.out.symm.trans (encT_none k3 k4 k6 k5); simpa using this
    have HEQ : Hid (strOfNums (ck :: T) = K) := by unfold Hid; rw [hT, HK.out]
    have q3 : (ck == 3) = false := by simp; omega
    have q9 : (ck == 9) = false := by simp; omega
    have q10 : (ck == 10) = false := by simp; omega
    have q4 : (ck == 4) = false := by simp; omega
    have q7 : (ck == 7) = false := by simp; omega
    have q8 : (ck == 8) = false := by simp; omega
    have q6 : (ck == 6) = false := by simp; omega
    have q5 : (ck == 5) = false := by simp; omega
    clear hT HTO HE k3 k4 k6 k5
    go_wp2_with fail
    go_ret
    exact ⟨by rw [HEQ.out]; rfl, I1.out.bel⟩

end Go.Proofs.YtlmmgjgkmbmgpaaGreatDoor

/- The contract of the reference's Encode where all is ascending. -/
namespace Go.Proofs.YtlmmgjgkmbmgpaaGreatDoor
open Go.RowKit

theorem keyR_take {l : List Val} {i : Nat} {y : Val} (h : l[i]? = some y) : strOfNums (encAll (l.take (i + 1))) = strOfNums (encAll (l.take i)) ++ strOfNums (encV y) := by rw [encAll_snoc h, strOfNums_append]

set_option maxRecDepth 100000 in
set_option maxHeartbeats 2000000 in
theorem rencode_any (ps : List PV) (A B : Option Addr) (n c bc : Nat) (w : World) (h : SL (fun _ => True) w A n c ps) (hd : SR 1 recX w B n bc (List.replicate n false)) (hn : n ≤ 10) :
    Calls Tryz.prog 85 #[.slice A n c, .slice B n bc] w fun e w' => e = .returned (.tuple #[.string (keyR (ps.map Prod.snd)).1, .int .i64 (keyR (ps.map Prod.snd)).2]) ∧ Below w.heap.size w w' := by
  have H := Lib.hid h
  have HD := Lib.hid hd
  have HL : Hid (n = ps.length) := h.sr.ln
  clear h hd
  go_enter Tryz.func85, Tryz.ntmps85
  go_upto_region 5 with fail
  go_loopw [6, 7] (fun u6 u7 wr => ∃ i : Nat, i ≤ n ∧ u7 = .int .i64 i ∧ allowsB ((ps.map Prod.snd).take i) = true ∧ u6 = .string (strOfNums (encAll ((ps.map Prod.snd).take i))) ∧ Below w.heap.size w wr) (fun _ u7 _ => n - (intOf u7).toNat)
  case atStart => exact ⟨0, Nat.zero_le _, rfl, rfl, rfl, Below.refl _ _⟩
  case round =>
    obtain ⟨i, hi, rfl, hal, rfl, hb⟩ := hrel
    have HAL := Lib.hid hal
    have HB := Lib.hid hb
    obtain ⟨S, hS⟩ : ∃ S, S = strOfNums (encAll ((ps.map Prod.snd).take i)) := ⟨_, rfl⟩
    rw [← hS]
    have hSz : S.size ≤ 85000000 := by
      have h2 := encAll_len hal
      have h3 : ((ps.map Prod.snd).take i).length ≤ i := List.length_take_le _ _
      rw [hS, strOfNums_size]
      omega
    have HS := Lib.hid hS
    clear hal hb hS
    by_cases hlt : i < n
    · obtain ⟨p, hp⟩ : ∃ p, ps[i]? = some p := ⟨_, List.getElem?_eq_getElem (by have := HL.out; omega)⟩
      obtain ⟨b, off, hA, _, hat, hrv⟩ := H.out.vat hp
      subst hA
      have hpl : (ps.map Prod.snd)[i]? = some p.2 := by rw [List.getElem?_map, hp]; rfl
      obtain ⟨q0, q1, q2, q3, q4⟩ := hat.step HB.out
      have HAT := Lib.hid hat
      have HR := Lib.hid hrv
      have HPL := Lib.hid hpl
      have i0' : (0 : Int) ≤ (i : Int) := by omega
      have i1' : (i : Int) < (n : Int) := by omega
      clear hp hat hrv hpl
      have HMI := Lib.hid (missing_any p.2 p.1 wr (HR.out.step HB.out))
      go_upto_region 7 with fail
      go_cut [32] (fun s32 wx => s32 = .bool (!allowB p.2) ∧ Below w.heap.size w wx)
      case first =>
        cases hM : missB p.2
        · have HA : Hid (allowB p.2 = validV p.2) := by unfold Hid allowB; rw [hM]; rfl
          rw [hM] at HMI
          clear hM
          go_wp2_with fail
          refine HMI.out.mono ?_
          rintro e w1 ⟨rfl, hb⟩
          have HB1 := Lib.hid (HB.out.step' hb)
          clear q0 q1 q2 q3 q4 hb HMI
          obtain ⟨q0, q1, q2, q3, q4⟩ := HAT.out.step HB1.out
          go_wp2_with fail
          refine (rvalid_any p.2 p.1 w1 (HR.out.step HB1.out)).mono ?_
          rintro e w2 ⟨rfl, hb⟩
          have HB2 := Lib.hid (HB1.out.step' hb)
          clear q0 q1 q2 q3 q4 hb HB1
          go_wp2_with fail
          go_meet
          exact ⟨by rw [HA.out], HB2.out⟩
        · have HA : Hid (allowB p.2 = true) := by unfold Hid allowB; rw [hM]; rfl
          rw [hM] at HMI
          clear hM
          go_wp2_with fail
          refine HMI.out.mono ?_
          rintro e w1 ⟨rfl, hb⟩
          have HB1 := Lib.hid (HB.out.step' hb)
          clear q0 q1 q2 q3 q4 hb HMI
          go_wp2_with fail
          go_meet
          exact ⟨by rw [HA.out]; rfl, HB1.out⟩
      case rest =>
        obtain ⟨rfl, hbc⟩ := hcut
        have HBC := Lib.hid hbc
        clear hbc q0 q1 q2 q3 q4 HMI HB
        cases hA : allowB p.2
        · have HK := Lib.hid (keyR_no HPL.out hA)
          clear hA
          go_wp2_with fail
          go_ret2
          exact ⟨by rw [HK.out]; rfl, HBC.out⟩
        · have HAS := Lib.hid (allows_snoc HPL.out HAL.out hA)
          have HE1 := Lib.hid (allow_enc hA)
          have HTA := Lib.hid (keyR_take HPL.out)
          clear hA
          obtain ⟨q0, q1, q2, q3, q4⟩ := HAT.out.step HBC.out
          obtain ⟨Y, hY⟩ : ∃ Y, Y = strOfNums (encV p.2) := ⟨_, rfl⟩
          have hYs : Y.size ≤ 8500000 := by rw [hY, strOfNums_size]; exact HE1.out.2
          have hz : ¬ (9223372036854775807 < S.size + Y.size) := by omega
          have hcal := rone_any p.2 p.1 wc (HR.out.step HBC.out) HE1.out.1 (by have := HE1.out.2; omega)
          rw [← hY] at hcal
          have HCA := Lib.hid hcal
          have HY := Lib.hid hY
          obtain ⟨b', off', hB, hbB, hel⟩ := HD.out.el (by omega)
          have hde := hel i false (by rw [List.getElem?_replicate, if_pos hlt]) 0 _ rfl
          have hde2 := (HBC.out.cell (p := ⟨b', off' + i * 1 + 0, none⟩) hbB).trans hde
          rw [Nat.mul_one, Nat.add_zero] at hde2
          subst hB
          clear hel hde hcal hY hYs
          go_wp2_with fail
          refine HCA.out.mono ?_
          rintro e w2 ⟨rfl, hb⟩
          have HB2 := Lib.hid (HBC.out.step' hb)
          clear q0 q1 q2 q3 q4 hb HCA
          go_wp2_with fail
          go_roundw
          case rel => exact ⟨i + 1, hlt, by go_num, HAS.out, by rw [HTA.out, ← HS.out, ← HY.out], HB2.out⟩
          case measure => simp [intOf]; omega
    · obtain rfl : i = n := by omega
      have hTK : (ps.map Prod.snd).take i = ps.map Prod.snd := List.take_of_length_le (by rw [List.length_map]; have := HL.out; omega)
      have hal := HAL.out
      rw [hTK] at hal
      have HK : Hid (keyR (ps.map Prod.snd) = (S, 0)) := by rw [HS.out, hTK]; exact keyR_yes hal
      clear hTK hal
      go_wp2_with fail
      go_ret2
      exact ⟨by rw [HK.out]; rfl, HB.out⟩

end Go.Proofs.YtlmmgjgkmbmgpaaGreatDoor

/- The contracts of the reference's code and Hash. Printed by gen_shcode.py. -/
namespace Go.Proofs.YtlmmgjgkmbmgpaaGreatDoor
open Go.RowKit

set_option maxRecDepth 100000 in
set_option maxHeartbeats 1000000 in
theorem rcode_any (x : Val) (c : VC) (w : World) (h : RW w c x) :
    Calls Tryz.prog 83 #[c.val] w fun e w' => e = .returned (.tuple #[.string (keyR [x]).1, .int .i64 (keyR [x]).2]) ∧ Below w.heap.size w w' := by
  have H := Lib.hid h

  have BE : Hid (Below w.heap.size w (((w.alloc (Obj.cells c.arr 46)).alloc (Obj.cells c.arr 46)).alloc (Obj.cells #[.bool false] 4))) := (((Below.refl _ _).alloc (Nat.le_refl _) _).alloc (by simp) _).alloc (by simp; omega) _
  have B1 : Hid (Blk (((w.alloc (Obj.cells c.arr 46)).alloc (Obj.cells c.arr 46)).alloc (Obj.cells #[.bool false] 4)) (w.heap.size + 1) 46 c.arr) := (Blk.new_at (by simp)).alloc _
  have B2 : Hid (Blk (((w.alloc (Obj.cells c.arr 46)).alloc (Obj.cells c.arr 46)).alloc (Obj.cells #[.bool false] 4)) (w.heap.size + 2) 4 #[.bool false]) := Blk.new_at (by simp)
  obtain ⟨wb, hwb⟩ : ∃ wb, wb = (((w.alloc (Obj.cells c.arr 46)).alloc (Obj.cells c.arr 46)).alloc (Obj.cells #[.bool false] 4)) := ⟨_, rfl⟩
  rw [← hwb] at BE B1 B2
  have HC := Lib.hid (rencode_any [(c, x)] (some ⟨w.heap.size + 1, 0, none⟩) (some ⟨w.heap.size + 2, 0, none⟩) 1 1 1 wb (sl_one B1.out (H.out.step BE.out)) (sx_one B2.out) (by omega))
  rw [hwb] at HC
  have HWB := Lib.hid hwb
  clear h hwb
  simp only [List.map_cons, List.map_nil] at HC
  obtain ⟨K, hK⟩ : ∃ K, keyR [x] = K := ⟨_, rfl⟩
  rw [hK] at HC ⊢
  clear hK
  obtain ⟨K1, K2⟩ := K
  go_enter Tryz.func83, Tryz.ntmps83
  go_wp2_with fail
  refine HC.out.mono ?_
  rintro e w1 ⟨rfl, hb⟩
  rw [← HWB.out] at hb
  have CE := Lib.hid (BE.out.step' hb)
  clear hb HC B1 B2
  go_wp2_with fail
  go_ret2
  exact ⟨rfl, CE.out⟩

set_option maxRecDepth 100000 in
set_option maxHeartbeats 1000000 in
theorem rhash_any (x : Val) (c : VC) (w : World) (h : RW w c x) :
    Calls Tryz.prog 84 #[c.val] w fun e w' => e = .returned (.int .i64 (hashV x)) ∧ Below w.heap.size w w' := by
  have H := Lib.hid h
  have B0 : Hid (Blk (w.alloc (Obj.cells c.arr 46)) w.heap.size 46 c.arr) := Blk.new_at rfl
  have BE : Hid (Below w.heap.size w (w.alloc (Obj.cells c.arr 46))) := (Below.refl _ _).alloc (Nat.le_refl _) _
  have HC := Lib.hid fun (w1 : World) (hb : Below w.heap.size w w1) => rcode_any x c w1 (h.step hb)
  clear h
  go_enter Tryz.func84, Tryz.ntmps84
  go_upto_region 1 with fail
  change (Code.region 1 _ _).wp _ _ _ (w.alloc (Obj.cells c.arr 46))
  generalize w.alloc (Obj.cells c.arr 46) = wa at *
  obtain ⟨q0, q1, q2, q3, q4⟩ := VAt.of_blk B0.out
  simp only [Nat.zero_add] at q0 q1 q2 q3 q4
  have HCA := Lib.hid (HC.out wa BE.out)
  cases hA : allowB x
  · have HV : Hid (hashV x = 0) := by unfold Hid hashV; rw [hA]; rfl
    rw [keyR_one_no hA] at HCA
    clear hA HC
    go_wp2_with fail
    refine HCA.out.mono ?_
    rintro e w1 ⟨rfl, hb⟩
    have CE := Lib.hid (BE.out.step' hb)
    clear q0 q1 q2 q3 q4 hb HCA B0
    go_wp2_with fail
    go_ret
    exact ⟨by rw [HV.out]; rfl, CE.out⟩
  · have HV : Hid (hashV x = ((crcSum (strOfNums (encV x)) : Nat) : Int)) := by unfold Hid hashV; rw [hA]; rfl
    have hz := (allow_enc hA).2
    have hzz : (strOfNums (encV x)).size ≤ 140737488355328 := by rw [strOfNums_size]; omega
    rw [keyR_one_yes hA] at HCA
    have hlt := crcSum_lt (strOfNums (encV x))
    obtain ⟨S, hS⟩ : ∃ S, S = strOfNums (encV x) := ⟨_, rfl⟩
    rw [← hS] at HCA HV hzz hlt
    have HZ := Lib.hid hzz
    obtain ⟨q, hq⟩ : ∃ q, q = crcSum S := ⟨_, rfl⟩
    rw [← hq] at HV hlt
    have HQ := Lib.hid hq
    have qz : (q : Int) < 4294967296 := by omega
    clear hA HC hS hz hzz hlt hq
    go_wp2_with fail
    refine HCA.out.mono ?_
    rintro e w1 ⟨rfl, hb⟩
    have CE := Lib.hid (BE.out.step' hb)
    clear q0 q1 q2 q3 q4 hb HCA B0
    go_wp2_with fail
    refine (rcrc_any S w1 HZ.out).mono ?_
    rintro e w2 ⟨rfl, rfl⟩
    rw [← HQ.out]
    go_wp2_with fail
    go_ret
    exact ⟨by rw [HV.out]; rfl, CE.out⟩

end Go.Proofs.YtlmmgjgkmbmgpaaGreatDoor

/- The contract of the reference's Encode. -/
namespace Go.Proofs.YtlmmgjgkmbmgpaaGreatDoor
open Go.RowKit

set_option maxHeartbeats 400000 in
theorem rint01_any (n : Int) (w : World) : Calls Tryz.prog 38 #[.int .i64 n] w fun e w' => e = .returned (VC.val ⟨3, n, ByteArray.empty, none, 0, 0, none, 0, 0⟩) ∧ Below w.heap.size w w' := by
  go_enter Tryz.func38, Tryz.ntmps38
  go_wp2_with fail
  exact bodyPost_ret (results_val rfl _ _ _ rfl _ ⟨3, n, ByteArray.empty, none, 0, 0, none, 0, 0⟩ (VAt.of_blk (Blk.new _ _ _))) rfl ⟨rfl, (Below.refl _ _).alloc (Nat.le_refl _) _⟩

/-- what the reference's Encode hands back: with 'hashed', of the first value alone -/
noncomputable def rencR (ks : List Od) (ha : Bool) (x : Val) : ByteArray × Int := match valsR ks x with
  | none => (ByteArray.empty, 8)
  | some ys => match ha, ys with
    | true, y :: _ => keyR [intH y]
    | _, ys => keyR ys
theorem rencR_none {ks : List Od} {ha : Bool} {x : Val} (h : valsR ks x = none) : rencR ks ha x = (ByteArray.empty, 8) := by rw [rencR, h]
theorem rencR_no {ks : List Od} {x : Val} {ys : List Val} (h : valsR ks x = some ys) : rencR ks false x = keyR ys := by rw [rencR, h]
theorem rencR_nil {ks : List Od} {ha : Bool} {x : Val} (h : valsR ks x = some []) : rencR ks ha x = keyR [] := by rw [rencR, h]; cases ha <;> rfl
theorem rencR_yes {ks : List Od} {x : Val} {y : Val} {ys : List Val} (h : valsR ks x = some (y :: ys)) : rencR ks true x = keyR [intH y] := by rw [rencR, h]
theorem valsAt_len {x : Val} : ∀ {ks : List Od} {ys : List Val}, valsAt x ks = some ys → ys.length = ks.length
  | [], ys, h => by rw [valsAt] at h; cases h; rfl
  | q :: r, ys, h => by
    rw [valsAt] at h
    split at h
    · cases h
    · rename_i y hy
      obtain ⟨zs, hz, rfl⟩ := Option.map_eq_some_iff.1 h
      rw [List.length_cons, valsAt_len hz, List.length_cons]
theorem valsR_at {ks : List Od} {x : Val} {ys : List Val} (h : valsR ks x = some ys) : x.k = 5 ∧ validV x = true ∧ valsAt x ks = some ys := by
  unfold valsR at h
  split at h
  · rename_i h1
    exact ⟨h1.1, h1.2, h⟩
  · cases h
theorem valsR_len {ks : List Od} {x : Val} {ys : List Val} (h : valsR ks x = some ys) : ys.length = ks.length := valsAt_len (valsR_at h).2.2
/-- of a valid shard key the two are the same -/
theorem enc_same {ks : List Od} {ha : Bool} {x : Val} (hk : ha = true → ks.length = 1) : rencR ks ha x = encR ks ha x := by
  cases h : valsR ks x with
  | none => rw [rencR_none h, encR_none h]
  | some ys =>
    rw [encR_some h]
    have hl := valsR_len h
    cases ha
    · rw [rencR_no h]; rfl
    · have := hk rfl
      match ys, hl, h with
      | [], hl, h => simp at hl; omega
      | [y], _, h => rw [rencR_yes h]; rfl
      | _ :: _ :: _, hl, h => simp at hl; omega

/-- the loop that makes the list of directions -/
structure UpI (w : World) (v : Value) (i : Nat) (wr : World) : Prop where
  own : wr.ownsRow w.heap.size 4 1 v i (flat recX (List.replicate i false))
  bel : Below w.heap.size w wr
theorem UpI.next {w wr w' : World} {v v' : Value} {i m : Nat} (h : UpI w v i wr) (hm : m = i + 1) (ho : w'.ownsRow w.heap.size 4 1 v' m (flat recX (List.replicate i false) ++ recX false)) (hg : wr.grownBy w' v.ownBlock) : UpI w v' (i + 1) w' := by
  subst hm
  refine ⟨?_, h.bel.grown hg h.bel.size (own_ge h.own)⟩
  rw [← flat_snoc] at ho
  rw [List.replicate_succ']
  exact ho
theorem UpI.sr {w wr : World} {v : Value} {i : Nat} (h : UpI w v i wr) : ∃ A c, v = .slice A i c ∧ SR 1 recX wr A i c (List.replicate i false) := by
  obtain ⟨A, c, hv, hle⟩ := own_slice h.own
  subst hv
  refine ⟨A, c, rfl, by simp, hle, fun hn => ?_⟩
  obtain ⟨g, cap, hv, _, hlt⟩ := h.own.form hn
  have hA : A = some ⟨g, 0, none⟩ := by injection hv
  subst hA
  refine ⟨g, 0, rfl, hlt, fun k a hk j u hj => ?_⟩
  have := h.own.cells (g := g) rfl (k * 1 + j) u (flat_get (fun _ => rfl : ∀ b, (recX b).length = 1) hk hj)
  rw [addr_add] at this
  rw [show 0 + k * 1 + j = 0 + (k * 1 + j) by omega]
  exact this
theorem recX_one (b : Bool) : ∀ u ∈ recX b, u.oneCell' = true := by simp [recX, Value.oneCell']

set_option maxRecDepth 100000 in
set_option maxHeartbeats 4000000 in
theorem rsenc_any (ks : List Od) (ha : Bool) (A : Option Addr) (n cc : Nat) (x : Val) (c : VC) (w : World) (hk : KS w A n cc ks) (hx : RW w c x) (h8 : ks.length ≤ 8) :
    Calls Tryz.prog 46 #[.agg #[.slice A n cc, .bool ha], c.val] w fun e w' => e = .returned (.tuple #[.string (rencR ks ha x).1, .int .i64 (rencR ks ha x).2]) ∧ Below w.heap.size w w' := by
  have HN := Lib.hid hk.ln
  have HX := Lib.hid hx
  have HK := Lib.hid hk
  have I0 : Hid (VlI w #[.slice A n cc, .bool ha] c (.slice none 0 0) [] ((w.alloc (Obj.cells #[.slice A n cc, .bool ha] 24)).alloc (Obj.cells c.arr 46))) := VlI.start
  clear hk hx
  go_enter Tryz.func46, Tryz.ntmps46
  go_upto_region 1 with fail
  change Code.wp _ _ _ _ ((w.alloc (Obj.cells #[.slice A n cc, .bool ha] 24)).alloc (Obj.cells c.arr 46))
  generalize ((w.alloc (Obj.cells #[.slice A n cc, .bool ha] 24)).alloc (Obj.cells c.arr 46)) = wa at *
  have B0 := Lib.hid I0.out.b0
  have B1 := Lib.hid I0.out.b1
  have BE := Lib.hid I0.out.vs.bel
  clear I0
  obtain ⟨a0, a1, a2, a3, a4⟩ := VAt.of_blk B1.out
  simp only [Nat.zero_add] at a0 a1 a2 a3 a4
  have k0 := B0.out.cell 0
  have k1 := B0.out.cell 1
  simp at k0 k1
  have HVS := Lib.hid (rvalues_any ks ha A n cc x c wa (HK.out.step BE.out) (HX.out.step BE.out) h8)
  go_wp2_with fail
  refine HVS.out.mono ?_
  rintro e w1 ⟨v, rfl, hys, hb⟩
  have HYS := Lib.hid hys
  have C0 := Lib.hid (B0.out.step hb)
  have CE := Lib.hid (BE.out.step' hb)
  clear hys hb HVS a0 a1 a2 a3 a4 k0 k1 B0 B1 BE
  cases hv : valsR ks x with
  | none =>
    have HV : Hid (rencR ks ha x = (ByteArray.empty, 8)) := rencR_none hv
    clear hv
    go_wp2_with fail
    go_ret2
    exact ⟨by rw [HV.out]; rfl, CE.out⟩
  | some ys =>
    obtain ⟨ps, A1, m, c1, hps, rfl, hsl⟩ := HYS.out ys hv
    have HSL := Lib.hid hsl
    have HPS := Lib.hid hps
    have HV := Lib.hid hv
    have hm : m = ps.length := hsl.sr.ln
    have hmk : m = ks.length := by rw [hm, ← valsR_len hv, ← hps, List.length_map]
    have hm8 : m ≤ 8 := by omega
    have HM := Lib.hid hm
    clear hsl hps hv hm hmk HYS
    have k1 := C0.out.cell 1
    simp at k1
    by_cases hh : ha = true ∧ 0 < m
    · obtain ⟨rfl, h0⟩ := hh
      obtain ⟨p, hp⟩ : ∃ p, ps[0]? = some p := ⟨_, List.getElem?_eq_getElem (by have := HM.out; omega)⟩
      obtain ⟨b, off, hA, _, hat, hrv⟩ := HSL.out.vat hp
      subst hA
      have HRV := Lib.hid hrv
      have HVE : Hid (rencR ks true x = keyR [intH p.2]) := by
        obtain ⟨r, hr⟩ : ∃ r, ps = p :: r := by
          cases ps with
          | nil => simp at hp
          | cons q r => simp at hp; subst hp; exact ⟨r, rfl⟩
        refine rencR_yes (ys := r.map Prod.snd) ?_
        rw [HV.out, ← HPS.out, hr]
        rfl
      rw [Nat.zero_mul, Nat.add_zero] at hat
      obtain ⟨q0, q1, q2, q3, q4⟩ := hat
      clear hp hrv
      have i1' : (0 : Int) < (m : Int) := by omega
      go_upto_region 5 with fail
      have HHA := Lib.hid (rhash_any p.2 p.1 w1 HRV.out)
      go_wp2_with fail
      refine HHA.out.mono ?_
      rintro e w2 ⟨rfl, hb⟩
      have CE2 := Lib.hid (CE.out.step' hb)
      clear hb HHA q0 q1 q2 q3 q4 CE
      obtain ⟨hh, hhe⟩ : ∃ h, hashV p.2 = h := ⟨_, rfl⟩
      rw [hhe]
      have HHE := Lib.hid hhe
      clear hhe
      go_wp2_with fail
      refine (rint01_any _ _).mono ?_
      rintro e w3 ⟨rfl, hb⟩
      have CE3 := Lib.hid (CE2.out.step' hb)
      clear hb CE2
      have hrc := rcode_any (intH p.2) ⟨3, hh, ByteArray.empty, none, 0, 0, none, 0, 0⟩ w3 (by rw [← HHE.out]; exact rv_int p.2)
      rw [← HVE.out] at hrc
      obtain ⟨⟨K1, K2⟩, hK⟩ : ∃ K, rencR ks true x = K := ⟨_, rfl⟩
      rw [hK] at hrc
      have HRC := Lib.hid hrc
      have HKK := Lib.hid hK
      clear hK hrc
      go_wp2_with fail
      refine HRC.out.mono ?_
      rintro e w4 ⟨rfl, hb⟩
      have CE4 := Lib.hid (CE3.out.step' hb)
      clear hb CE3 HRC
      go_wp2_with fail
      go_ret2
      exact ⟨by rw [HKK.out]; rfl, CE4.out⟩
    · have HVE : Hid (rencR ks ha x = keyR (ps.map Prod.snd)) := by
        rcases Nat.eq_zero_or_pos m with h0 | h0
        · have : ps = [] := List.eq_nil_of_length_eq_zero (by have := HM.out; omega)
          subst this
          refine rencR_nil ?_
          rw [HV.out, ← HPS.out]
          rfl
        · have : ha = false := by
            cases ha
            · rfl
            · exact absurd ⟨rfl, h0⟩ hh
          subst this
          refine rencR_no ?_
          rw [HV.out, ← HPS.out]
      obtain ⟨j0, hj0, hz0, hz1, hz2⟩ := info_parts kinfo_bool
      have U0 : Hid (UpI w1 (.slice none 0 0) 0 w1) := ⟨own_nil _ _ _ _, Below.refl _ _⟩
      have hz : ha = true → ¬ (0 < m) := fun e h => hh ⟨e, h⟩
      obtain ⟨⟨K1, K2⟩, hK⟩ : ∃ K, rencR ks ha x = K := ⟨_, rfl⟩
      have HKK := Lib.hid hK
      have HVK : Hid (keyR (ps.map Prod.snd) = (K1, K2)) := by have h := HVE.out; rw [hK] at h; exact h.symm
      clear hh hK HVE
      have hgo : ha = false ∨ (ha = true ∧ ¬ (0 < m) ∧ ¬ ((0 : Int) < (m : Int))) := by
        cases ha
        · exact .inl rfl
        · have := hz rfl
          exact .inr ⟨rfl, this, by omega⟩
      clear hz
      rcases hgo with rfl | ⟨rfl, hn0, hn1⟩
      all_goals
        go_upto_region 8 with fail
        (try clear hn0 hn1)
        go_loopw [8, 9] (fun u8 u9 wr => ∃ i : Nat, i ≤ m ∧ u9 = .int .i64 i ∧ UpI w1 u8 i wr) (fun _ u9 _ => m - (intOf u9).toNat)
        case atStart => exact ⟨0, Nat.zero_le _, rfl, U0.out⟩
        case round =>
          obtain ⟨i, hi, rfl, J⟩ := hrel
          have J2 := Lib.hid J
          by_cases hlt : i < m
          · have i1' : (i : Int) < (m : Int) := by omega
            have LK : Hid (UpI w1 u8 i (wr.alloc (Obj.cells #[.bool false] 4))) := ⟨own_step J.own ((Below.refl wr.heap.size wr).alloc (Nat.le_refl _) _), J.bel.alloc J.bel.size _⟩
            have hlw : w1.heap.size ≤ wr.heap.size := J.bel.size
            clear J
            go_wp2_with (at_builtin; refine wpList_append_any _ rfl _ _ 139 rfl w1.heap.size 4 j0 (.bool false) 1 1 Tryz.underlying139 hj0 hz0 hz1 hz2 rfl (by decide) u8 i (flat recX (List.replicate i false)) rfl LK.out.own _ _ 1 _ (recX false) rfl ⟨rfl, fun _ => ⟨_, rfl, Nat.lt_succ_self _, news_at _ _ _⟩⟩ (recX_one _) (by unfold maxLen; omega) (by omega) (alloc_le hlw _) ?_)
            intro v' w6 hown hgr hat
            have HI := Lib.hid (LK.out.next rfl hown hgr)
            clear hown hgr hat LK
            go_wp2_with fail
            go_roundw
            case rel => exact ⟨i + 1, hlt, by go_num, HI.out⟩
            case measure => simp [intOf]; omega
          · obtain rfl : i = m := by omega
            obtain ⟨B1, d1, rfl, hsr⟩ := J.sr
            have hec := rencode_any ps A1 B1 i c1 d1 wr (HSL.out.step J.bel) hsr (by omega)
            rw [HVK.out] at hec
            have HRC := Lib.hid hec
            clear hec J
            go_wp2_with fail
            refine HRC.out.mono ?_
            rintro e w4 ⟨rfl, hb⟩
            have CE4 := Lib.hid ((CE.out.step' J2.out.bel).step' hb)
            clear hb HRC
            go_wp2_with fail
            go_ret2
            exact ⟨by rw [HKK.out]; rfl, CE4.out⟩

end Go.Proofs.YtlmmgjgkmbmgpaaGreatDoor

/- The key of the first checks. -/
namespace Go.Proofs.YtlmmgjgkmbmgpaaGreatDoor
open Go.RowKit

theorem results_key {fn : Func} {p : Tmp} (h : fn.results = #[.cell p 24]) (tmps : Array Value) (g1 off : Nat) (h1 : tmps[p]?.getD undef = .pointer (some ⟨g1, off, none⟩))
    (W : World) (a b : Value) (q0 : W.cell? ⟨g1, off, none⟩ = some a) (q1 : W.cell? ⟨g1, off + 1, none⟩ = some b) :
    (results fn tmps).run Tryz.prog W = .ok (.agg #[a, b]) W := by
  simp [results, h, h1, asAddr, go_sem, q0, q1]
theorem st_ka {w : World} {g : Nat} (h : Blk w g 9 #[.string ka]) : ST w (some ⟨g, 0, none⟩) 1 1 [ka] := by
  refine ⟨⟨rfl, Nat.le_refl _, fun _ => ⟨g, 0, rfl, h.lt, fun i a hi j v hj => ?_⟩⟩, by show 1 * 16 ≤ reach; decide, fun s hs => ?_⟩
  · cases i with
    | zero =>
      simp at hi
      subst hi
      cases j with
      | zero => simp [recT] at hj; subst hj; exact h.cell 0
      | succ j => simp [recT] at hj
    | succ i => simp at hi
  · simp at hs; subst hs; show 1 ≤ reach; decide
theorem ks_ka {w : World} {g1 g2 : Nat} (h1 : Blk w g1 9 #[.string ka]) (h2 : Blk w g2 130 #[.slice (some ⟨g1, 0, none⟩) 1 1, .bool false]) : KS w (some ⟨g2, 0, none⟩) 1 1 ks1 := by
  refine ⟨[⟨some ⟨g1, 0, none⟩, 1, 1, false⟩], ⟨⟨rfl, Nat.le_refl _, fun _ => ⟨g2, 0, rfl, h2.lt, fun i a hi j v hj => ?_⟩⟩, by show 1 * 32 ≤ reach; decide, rfl, fun i o q ho hq => ?_⟩⟩
  · cases i with
    | zero =>
      simp at hi
      subst hi
      match j, hj with
      | 0, hj => simp [recO] at hj; subst hj; exact h2.cell 0
      | 1, hj => simp [recO] at hj; subst hj; exact h2.cell 1
      | j + 2, hj => simp [recO] at hj
    | succ i => simp at hi
  · cases i with
    | zero =>
      simp at ho
      simp [ks1] at hq
      subst ho hq
      exact ⟨rfl, st_ka h1⟩
    | succ i => simp at ho
/-- the key a: one order with the path a, in new memory -/
def KeyOk (w : World) (e : Ending) (w' : World) : Prop :=
  ∃ g1 g2 : Nat, e = .returned (.agg #[.slice (some ⟨g2, 0, none⟩) 1 1, .bool false]) ∧ Blk w' g1 9 #[.string ka] ∧ Blk w' g2 130 #[.slice (some ⟨g1, 0, none⟩) 1 1, .bool false] ∧ Below w.heap.size w w'
set_option maxRecDepth 100000 in
set_option maxHeartbeats 1000000 in
theorem key_any (w : World) : Calls Tryz.prog 68 #[] w (KeyOk w) := by
  go_enter Tryz.func68, Tryz.ntmps68
  go_wp2_with fail
  exact bodyPost_ret (results_key rfl _ _ _ rfl _ (.slice (some ⟨w.heap.size + 1 + 1, 0, none⟩) 1 1) (.bool false) ((((Blk.new_at rfl).alloc _).alloc _).cell 0) ((((Blk.new_at rfl).alloc _).alloc _).cell 1)) rfl
    ⟨w.heap.size + 1, w.heap.size + 1 + 1, rfl, (Blk.new_at (by simp)).alloc _, Blk.new_at (by simp), (((Below.refl _ _).alloc (Nat.le_refl _) _).alloc (by simp) _).alloc (by simp; omega) _⟩
theorem rw_i {F : Nat → Prop} (n : Int) (w : World) : RV F w (cI n) (vI n) := RVs.shut ⟨rfl, rfl, rfl, by show 0 ≤ reach; decide, rfl, Nat.le_refl _, by show 0 * 80 ≤ reach; decide, fun h => absurd h (by show ¬ (0 < 0); omega), rfl, Nat.le_refl _, by show 0 * 96 ≤ reach; decide, fun h => absurd h (by show ¬ (0 < 0); omega)⟩
abbrev cD (g : Nat) : VC := ⟨5, 0, ByteArray.empty, none, 0, 0, some ⟨g, 0, none⟩, 1, 1⟩
theorem rw_d {w : World} {g : Nat} {n : Int} (h : Blk w g 98 #[.string ka, .int .i64 3, .int .i64 n, .string ByteArray.empty, .slice none 0 0, .slice none 0 0]) : RW w (cD g) (vD n) := by
  refine RVs.shut ⟨rfl, rfl, rfl, by show 0 ≤ reach; decide, rfl, Nat.le_refl _, by show 0 * 80 ≤ reach; decide, fun h => absurd h (by show ¬ (0 < 0); omega), rfl, Nat.le_refl _, by show 1 * 96 ≤ reach; decide, fun _ => ⟨g, 0, rfl, Ft.top, fun i f hi => ?_⟩⟩
  cases i with
  | zero =>
    simp [vD, Val.d] at hi
    subst hi
    exact ⟨h.cell 0, by show 1 ≤ reach; decide, cI n, ⟨h.cell 1, h.cell 2, h.cell 3, h.cell 4, h.cell 5⟩, rw_i n w⟩
  | succ i => simp [vD, Val.d] at hi

abbrev k5 : ByteArray := ⟨#[3, 128, 0, 0, 0, 0, 0, 0, 5]⟩
theorem keyR_5 : keyR [vI 5] = (k5, 0) := by rw [keyR_i, key5_eq]
theorem after_5 (w : World) : Calls Tryz.prog 156 #[.string k5] w fun e w' => e = .returned (.tuple #[.string (k5.extract 0 8 ++ strOfNums [((5 + 1 : Nat) : Int)]), .bool true]) ∧ Below w.heap.size w w' :=
  after9_any k5 5 w rfl rfl (by omega)
theorem same_ka : sameP [ka] [ka] = true := by kernel_rfl

set_option maxRecDepth 100000 in
set_option maxHeartbeats 4000000 in
theorem awake48_any (w : World) (hT : Tabs w) : Calls Tryz.prog 27 #[] w fun e w' => e = .returned (.bool true) ∧ Below w.heap.size w w' := by
  have HT := Lib.hid hT
  clear hT
  have Z := Lib.hid (Below.refl w.heap.size w)
  go_enter Tryz.func27, Tryz.ntmps27
  go_wp2_with fail
  refine (rint01_any 5 _).mono ?_
  rintro e w1 ⟨rfl, hb⟩
  have Z1 := Lib.hid (Z.out.step' hb)
  clear hb Z
  go_upto_region 2 with fail
  change Code.wp _ _ _ _ ((w1.alloc (Obj.cells #[.string ka, .int .i64 3, .int .i64 5, .string ByteArray.empty, .slice none 0 0, .slice none 0 0] 98)).alloc (Obj.cells (cD w1.heap.size).arr 46))
  have F0 : Hid (Blk ((w1.alloc (Obj.cells #[.string ka, .int .i64 3, .int .i64 5, .string ByteArray.empty, .slice none 0 0, .slice none 0 0] 98)).alloc (Obj.cells (cD w1.heap.size).arr 46)) w1.heap.size 98 #[.string ka, .int .i64 3, .int .i64 5, .string ByteArray.empty, .slice none 0 0, .slice none 0 0]) := (Blk.new_at rfl).alloc _
  have D0 : Hid (Blk ((w1.alloc (Obj.cells #[.string ka, .int .i64 3, .int .i64 5, .string ByteArray.empty, .slice none 0 0, .slice none 0 0] 98)).alloc (Obj.cells (cD w1.heap.size).arr 46)) (w1.heap.size + 1) 46 (cD w1.heap.size).arr) := Blk.new_at (by simp)
  have Z2 : Hid (Below w.heap.size w ((w1.alloc (Obj.cells #[.string ka, .int .i64 3, .int .i64 5, .string ByteArray.empty, .slice none 0 0, .slice none 0 0] 98)).alloc (Obj.cells (cD w1.heap.size).arr 46))) := (Z1.out.alloc Z1.out.size _).alloc (by have := Z1.out.size; simp; omega) _
  generalize ((w1.alloc (Obj.cells #[.string ka, .int .i64 3, .int .i64 5, .string ByteArray.empty, .slice none 0 0, .slice none 0 0] 98)).alloc (Obj.cells (cD w1.heap.size).arr 46)) = wa at *
  generalize w1.heap.size = gf at *
  obtain ⟨a0, a1, a2, a3, a4⟩ := VAt.of_blk D0.out
  simp only [Nat.zero_add] at a0 a1 a2 a3 a4
  have B := Lib.hid ((Below.refl wa.heap.size wa).drewN 1)
  have KSS : Hid (∀ w', Below wa.heap.size wa w' → w'.cell? ⟨gf + 1, 0, none⟩ = some (.int .i64 5) ∧ w'.cell? ⟨gf + 1, 1, none⟩ = some (.int .i64 0) ∧ w'.cell? ⟨gf + 1, 2, none⟩ = some (.string ByteArray.empty) ∧ w'.cell? ⟨gf + 1, 3, none⟩ = some (.slice none 0 0) ∧ w'.cell? ⟨gf + 1, 4, none⟩ = some (.slice (some ⟨gf, 0, none⟩) 1 1)) := Lib.hid fun w' hb =>
    ⟨(hb.cell (p := ⟨gf + 1, 0, none⟩) D0.out.lt).trans a0, (hb.cell (p := ⟨gf + 1, 1, none⟩) D0.out.lt).trans a1, (hb.cell (p := ⟨gf + 1, 2, none⟩) D0.out.lt).trans a2, (hb.cell (p := ⟨gf + 1, 3, none⟩) D0.out.lt).trans a3, (hb.cell (p := ⟨gf + 1, 4, none⟩) D0.out.lt).trans a4⟩
  have RD := Lib.hid (rw_d F0.out)
  have HENC : Hid (∀ (g2 : Nat) (wq : World), Tabs wq → KS wq (some ⟨g2, 0, none⟩) 1 1 ks1 → RW wq (cD gf) (vD 5) → Calls Tryz.prog 67 #[.agg #[.slice (some ⟨g2, 0, none⟩) 1 1, .bool false], (cD gf).val] wq fun e w' => e = .returned (.tuple #[.string k5, .int .i64 0]) ∧ Below wq.heap.size wq w') := Lib.hid fun g2 wq ht hk hr => by
    have := senc_any ks1 false (some ⟨g2, 0, none⟩) 1 1 (vD 5) (cD gf) wq ht hk hr (by decide)
    rw [enc_d, key5_eq] at this
    exact this
  clear a0 a1 a2 a3 a4
  go_cut [2, 3] (fun v2 v3 wx => v2 = .string k5 ∧ v3 = .int .i64 0 ∧ Below wa.heap.size wa wx)
  case first =>
    go_region_held3 (fun w' => w'.cell? ⟨gf + 1, 0, none⟩ = some (.int .i64 5) ∧ w'.cell? ⟨gf + 1, 1, none⟩ = some (.int .i64 0) ∧ w'.cell? ⟨gf + 1, 2, none⟩ = some (.string ByteArray.empty) ∧ w'.cell? ⟨gf + 1, 3, none⟩ = some (.slice none 0 0) ∧ w'.cell? ⟨gf + 1, 4, none⟩ = some (.slice (some ⟨gf, 0, none⟩) 1 1))
      (first | exact KSS.out _ B.out | ((try dsimp only); assumption) | go_keep)
      (first
        | (go_at_call 68; refine (key_any _).mono ?_; rintro e3 w3 ⟨g1, g2, rfl, hk1, hk2, hb⟩; replace B := Lib.hid (B.out.step' hb); have K1 := Lib.hid hk1; have K2 := Lib.hid hk2; clear hb hk1 hk2)
        | (go_at_call 67; refine (HENC.out g2 _ (HT.out.step (Z2.out.step' B.out)) (ks_ka K1.out K2.out) (RD.out.step B.out)).mono ?_; rintro e4 w4 ⟨rfl, hb⟩; replace B := Lib.hid (B.out.step' hb); clear hb))
    all_goals
      go_wp2_with fail
      go_meet
      exact ⟨rfl, rfl, B.out⟩
  case rest =>
    obtain ⟨rfl, rfl, hb9⟩ := hcut
    have Z3 := Lib.hid (Z2.out.step' hb9)
    clear hb9 KSS B HENC RD F0 D0 Z2 Z1
    generalize wc = w5 at *
    go_wp2_with fail
    refine (key_any _).mono ?_
    rintro e w6 ⟨g1, g2, rfl, hk1, hk2, hb⟩
    have K1 := Lib.hid hk1
    have K2 := Lib.hid hk2
    have Z4 := Lib.hid (Z3.out.step' hb)
    clear hb hk1 hk2 Z3
    go_wp2_with fail
    refine (rint01_any 5 _).mono ?_
    rintro e w7 ⟨rfl, hb⟩
    have P0 : Hid (Blk w7 w6.heap.size 9 #[.string ka]) := (Blk.new_at rfl : Blk (w6.alloc (Obj.cells #[.string ka] 9)) w6.heap.size 9 #[.string ka]).step hb
    have Z5 := Lib.hid ((Z4.out.alloc Z4.out.size (Obj.cells #[.string ka] 9)).step' hb)
    have K3 := Lib.hid ((K1.out.alloc (Obj.cells #[.string ka] 9)).step hb)
    have K4 := Lib.hid ((K2.out.alloc (Obj.cells #[.string ka] 9)).step hb)
    clear hb K1 K2 Z4
    generalize w6.heap.size = gp at *
    have HRG := Lib.hid (ranges1_any (ptIv (vI 5)) true k5 k5 (k5.extract 0 8 ++ strOfNums [((5 + 1 : Nat) : Int)]) k5 (k5.extract 0 8 ++ strOfNums [((5 + 1 : Nat) : Int)]) (predA 2 (some ⟨gp, 0, none⟩) 1 1 (cI 5)) rfl ⟨some ⟨g1, 0, none⟩, 1, 1, false⟩ g2 0 1 1 w7 (HT.out.step Z5.out) (by omega) (K4.out.cell 0) ⟨rfl, rfl⟩ keyR_5 keyR_5 (.inl ⟨by show (3 : Int) ≠ 1; decide, by show (3 : Int) ≠ 11; decide, rfl, rfl⟩) after_5
      (fun wr hb => of_eq (vI 5) (cI 5) (some ⟨gp, 0, none⟩) (some ⟨g1, 0, none⟩) 1 1 1 1 [ka] wr (HT.out.step (Z5.out.step' hb)) (rw_i 5 wr) (valid_i 5) (by show (3 : Int) ≠ 6; decide) (by show (3 : Int) ≠ 2; decide) (st_ka (P0.out.step hb)) (st_ka (K3.out.step hb)) same_ka))
    go_wp2_with fail
    refine HRG.out.mono ?_
    rintro e w8 ⟨A8, c8, rfl, hsr, hb⟩
    have Z6 := Lib.hid (Z5.out.step' hb)
    have HSR := Lib.hid hsr
    clear hb hsr HRG Z5 K3 K4 P0
    obtain ⟨b, off, x, hA8, hbw, hx, e0, e1⟩ := HSR.out.at22 (i := 0) (by omega)
    obtain rfl : x = (k5, k5.extract 0 8 ++ strOfNums [((5 + 1 : Nat) : Int)]) := by simpa using hx.symm
    subst hA8
    rw [Nat.zero_mul, Nat.add_zero] at e0
    have E0 := Lib.hid e0
    clear hx e0 e1
    go_wp2_with fail
    refine (key_any _).mono ?_
    rintro e w9 ⟨g3, g4, rfl, hk1, hk2, hb⟩
    have E1 := Lib.hid ((hb.cell (p := ⟨b, off, none⟩) hbw).trans E0.out)
    have hbw9 : b < w9.heap.size := Nat.lt_of_lt_of_le hbw hb.size
    have HKK := Lib.hid (ks_ka hk1 hk2)
    have Z7 := Lib.hid (Z6.out.step' hb)
    clear hb hk1 hk2 Z6 E0 hbw HSR
    have HSV := Lib.hid (shardkey_any ks1 false (some ⟨g4, 0, none⟩) 1 1 w9 HKK.out)
    rw [keyE_ks1] at HSV
    go_wp2_with fail
    refine HSV.out.mono ?_
    rintro e wA ⟨rfl, hb⟩
    have E2 := Lib.hid ((hb.cell (p := ⟨b, off, none⟩) hbw9).trans E1.out)
    have hbwA : b < wA.heap.size := Nat.lt_of_lt_of_le hbw9 hb.size
    have Z8 := Lib.hid (Z7.out.step' hb)
    clear hb HSV HKK Z7 E1 hbw9
    have HSW := Lib.hid (shardkey_any [] false none 0 0 wA KS.nil)
    rw [keyE_nil] at HSW
    go_wp2_with fail
    refine HSW.out.mono ?_
    rintro e wB ⟨rfl, hb⟩
    have E3 := (hb.cell (p := ⟨b, off, none⟩) hbwA).trans E2.out
    have Z9 := Lib.hid (Z8.out.step' hb)
    clear hb HSW Z8 E2 hbwA
    go_wp2_with fail
    refine (rnull_any _).mono ?_
    rintro e wC ⟨rfl, hb⟩
    have ZA := Lib.hid (Z9.out.step' hb)
    clear hb Z9 E3
    go_wp2_with fail
    obtain ⟨h1, hh1⟩ : ∃ h, h = hashV nullV := ⟨_, rfl⟩
    obtain ⟨h2, hh2⟩ : ∃ h, h = hashV (vI 5) := ⟨_, rfl⟩
    have hne : (h1 != h2) = true := by rw [hh1, hh2]; simpa using hash_diff
    have HH1 := Lib.hid (hash_any nullV nullC wC (HT.out.step ZA.out) rv_null)
    rw [← hh1] at HH1
    have HH2 := Lib.hid hh2
    clear hh1 hh2
    refine HH1.out.mono ?_
    rintro e wD ⟨rfl, hb⟩
    have ZB := Lib.hid (ZA.out.step' hb)
    clear hb ZA
    go_wp2_with fail
    refine (rint01_any 5 _).mono ?_
    rintro e wE ⟨rfl, hb⟩
    have ZC := Lib.hid (ZB.out.step' hb)
    clear hb ZB
    have HH := Lib.hid (hash_any (vI 5) (cI 5) wE (HT.out.step ZC.out) (rw_i 5 wE))
    rw [← HH2.out] at HH
    go_wp2_with fail
    refine HH.out.mono ?_
    rintro e wF ⟨rfl, hb⟩
    have ZD := Lib.hid (ZC.out.step' hb)
    clear hb ZC HH HH1
    go_wp2_with fail
    go_ret
    exact ⟨rfl, ZD.out⟩

end Go.Proofs.YtlmmgjgkmbmgpaaGreatDoor

/- The contract of slices.Clone at chunks, orders and texts. Printed by gen_chclone.py. -/
namespace Go.Proofs.YtlmmgjgkmbmgpaaGreatDoor
open Go.RowKit

set_option maxHeartbeats 1000000 in
theorem cloneC_any (xs : List Ch) (A : Option Addr) (n c : Nat) (w : World) (h : SR 5 recC w A n c xs) (hn : n * 56 ≤ reach) :
    Calls Tryz.prog 170 #[.slice A n c] w fun e w' => ∃ v, e = .returned v ∧ w'.ownsRow w.heap.size 80 5 v n (flat recC xs) ∧ Below w.heap.size w w' := by
  obtain ⟨j0, hj0, hy0, hy1, hy2⟩ := info_parts info_chunk
  have HL := Lib.hid h.ln
  unfold reach at hn
  cases A with
  | none =>
    have h0 : n = 0 := by
      rcases Nat.eq_zero_or_pos n with h0 | h0
      · exact h0
      · obtain ⟨b, off, e, _⟩ := h.el h0; cases e
    subst h0
    have HX : Hid (xs = []) := List.eq_nil_of_length_eq_zero HL.out.symm
    clear h
    have kn := fun (w : World) => Lib.run_eql_slice_nil (P := Tryz.prog) w 25 80 none 0 c 0 0 Tryz.underlying25
    go_enter Tryz.func170, Tryz.ntmps170
    go_wp2_with fail
    go_ret
    exact ⟨_, rfl, by rw [HX.out]; exact own_nil _ _ _ _, Below.refl _ _⟩
  | some ad =>
    have HR := Lib.hid (h.reads recC_length (by omega))
    have hO : (w.alloc (Obj.cells #[] 80)).ownsRow w.heap.size 80 5 (.slice (some ⟨w.heap.size, 0, none⟩) 0 0) 0 [] :=
      ⟨rfl, .inr ⟨w.heap.size, 0, #[], rfl, Nat.le_refl _, Blk.new_at rfl, Nat.le_refl _, Nat.zero_le _, rfl, rfl⟩⟩
    have HO := Lib.hid hO
    have H1 := Lib.hid (flat_one recC_one xs)
    clear h hO
    have kn := fun (w : World) => Lib.run_eql_slice_nil (P := Tryz.prog) w 25 80 (some ad) n c 0 0 Tryz.underlying25
    go_enter Tryz.func170, Tryz.ntmps170
    go_wp2_with (at_builtin; refine wpList_append_any _ rfl _ _ 25 rfl w.heap.size 80 j0 (aggC Ch.zero) 5 56 Tryz.underlying25 hj0 hy0 hy1 hy2 rfl (by decide) (.slice (some ⟨w.heap.size, 0, none⟩) 0 0) 0 [] rfl HO.out w.heap.size (some ad) n c (flat recC xs) rfl (HR.out.alloc (Nat.le_refl _) _) H1.out (by unfold maxLen; omega) (by omega) (by simp) ?_)
    intro v' w2 hown hg _
    go_wp2_with fail
    go_ret
    refine ⟨v', rfl, by simpa using hown, ?_⟩
    exact ((Below.refl w.heap.size w).alloc (Nat.le_refl _) _).grown hg (by simp) (fun k hk => by simp [Value.ownBlock] at hk; omega)

set_option maxHeartbeats 1000000 in
theorem cloneO_any (xs : List OC) (A : Option Addr) (n c : Nat) (w : World) (h : SR 2 recO w A n c xs) (hn : n * 32 ≤ reach) :
    Calls Tryz.prog 168 #[.slice A n c] w fun e w' => ∃ v, e = .returned v ∧ w'.ownsRow w.heap.size 130 2 v n (flat recO xs) ∧ Below w.heap.size w w' := by
  obtain ⟨j0, hj0, hy0, hy1, hy2⟩ := info_parts info_order
  have HL := Lib.hid h.ln
  unfold reach at hn
  cases A with
  | none =>
    have h0 : n = 0 := by
      rcases Nat.eq_zero_or_pos n with h0 | h0
      · exact h0
      · obtain ⟨b, off, e, _⟩ := h.el h0; cases e
    subst h0
    have HX : Hid (xs = []) := List.eq_nil_of_length_eq_zero HL.out.symm
    clear h
    have kn := fun (w : World) => Lib.run_eql_slice_nil (P := Tryz.prog) w 22 130 none 0 c 0 0 Tryz.underlying22
    go_enter Tryz.func168, Tryz.ntmps168
    go_wp2_with fail
    go_ret
    exact ⟨_, rfl, by rw [HX.out]; exact own_nil _ _ _ _, Below.refl _ _⟩
  | some ad =>
    have HR := Lib.hid (h.reads recO_length (by omega))
    have hO : (w.alloc (Obj.cells #[] 130)).ownsRow w.heap.size 130 2 (.slice (some ⟨w.heap.size, 0, none⟩) 0 0) 0 [] :=
      ⟨rfl, .inr ⟨w.heap.size, 0, #[], rfl, Nat.le_refl _, Blk.new_at rfl, Nat.le_refl _, Nat.zero_le _, rfl, rfl⟩⟩
    have HO := Lib.hid hO
    have H1 := Lib.hid (flat_one recO_one xs)
    clear h hO
    have kn := fun (w : World) => Lib.run_eql_slice_nil (P := Tryz.prog) w 22 130 (some ad) n c 0 0 Tryz.underlying22
    go_enter Tryz.func168, Tryz.ntmps168
    go_wp2_with (at_builtin; refine wpList_append_any _ rfl _ _ 22 rfl w.heap.size 130 j0 (aggO OC.zero) 2 32 Tryz.underlying22 hj0 hy0 hy1 hy2 rfl (by decide) (.slice (some ⟨w.heap.size, 0, none⟩) 0 0) 0 [] rfl HO.out w.heap.size (some ad) n c (flat recO xs) rfl (HR.out.alloc (Nat.le_refl _) _) H1.out (by unfold maxLen; omega) (by omega) (by simp) ?_)
    intro v' w2 hown hg _
    go_wp2_with fail
    go_ret
    refine ⟨v', rfl, by simpa using hown, ?_⟩
    exact ((Below.refl w.heap.size w).alloc (Nat.le_refl _) _).grown hg (by simp) (fun k hk => by simp [Value.ownBlock] at hk; omega)

set_option maxHeartbeats 1000000 in
theorem cloneT_any (xs : List ByteArray) (A : Option Addr) (n c : Nat) (w : World) (h : SR 1 recT w A n c xs) (hn : n * 16 ≤ reach) :
    Calls Tryz.prog 169 #[.slice A n c] w fun e w' => ∃ v, e = .returned v ∧ w'.ownsRow w.heap.size 9 1 v n (flat recT xs) ∧ Below w.heap.size w w' := by
  obtain ⟨j0, hj0, hy0, hy1, hy2⟩ := info_parts info_string
  have HL := Lib.hid h.ln
  unfold reach at hn
  cases A with
  | none =>
    have h0 : n = 0 := by
      rcases Nat.eq_zero_or_pos n with h0 | h0
      · exact h0
      · obtain ⟨b, off, e, _⟩ := h.el h0; cases e
    subst h0
    have HX : Hid (xs = []) := List.eq_nil_of_length_eq_zero HL.out.symm
    clear h
    have kn := fun (w : World) => Lib.run_eql_slice_nil (P := Tryz.prog) w 48 9 none 0 c 0 0 Tryz.underlying48
    go_enter Tryz.func169, Tryz.ntmps169
    go_wp2_with fail
    go_ret
    exact ⟨_, rfl, by rw [HX.out]; exact own_nil _ _ _ _, Below.refl _ _⟩
  | some ad =>
    have HR := Lib.hid (h.reads recT_length (by omega))
    have hO : (w.alloc (Obj.cells #[] 9)).ownsRow w.heap.size 9 1 (.slice (some ⟨w.heap.size, 0, none⟩) 0 0) 0 [] :=
      ⟨rfl, .inr ⟨w.heap.size, 0, #[], rfl, Nat.le_refl _, Blk.new_at rfl, Nat.le_refl _, Nat.zero_le _, rfl, rfl⟩⟩
    have HO := Lib.hid hO
    have H1 := Lib.hid (flat_one recT_one xs)
    clear h hO
    have kn := fun (w : World) => Lib.run_eql_slice_nil (P := Tryz.prog) w 48 9 (some ad) n c 0 0 Tryz.underlying48
    go_enter Tryz.func169, Tryz.ntmps169
    go_wp2_with (at_builtin; refine wpList_append_any _ rfl _ _ 48 rfl w.heap.size 9 j0 (.string ByteArray.empty) 1 16 Tryz.underlying48 hj0 hy0 hy1 hy2 rfl (by decide) (.slice (some ⟨w.heap.size, 0, none⟩) 0 0) 0 [] rfl HO.out w.heap.size (some ad) n c (flat recT xs) rfl (HR.out.alloc (Nat.le_refl _) _) H1.out (by unfold maxLen; omega) (by omega) (by simp) ?_)
    intro v' w2 hown hg _
    go_wp2_with fail
    go_ret
    refine ⟨v', rfl, by simpa using hown, ?_⟩
    exact ((Below.refl w.heap.size w).alloc (Nat.le_refl _) _).grown hg (by simp) (fun k hk => by simp [Value.ownBlock] at hk; omega)

end Go.Proofs.YtlmmgjgkmbmgpaaGreatDoor
