/- The contract of value.Set where the name is new. -/
import Derived.Test.YtckeccfbadlhhaaDoorValGet
import Derived.Test.YtckeccfbadlhhaaDoorValRows
import Derived.Test.YtckeccfbadlhhaaDoorValEach
namespace Go.Proofs.YtckeccfbadlhhaaDoor
open Go.RowKit

/-- a document with a field added -/
def addV (x : Val) (name : ByteArray) (v : Val) : Val := .mk x.k x.n x.t x.l (x.d ++ [.mk name v])
def SetOk (y : Val) (w : World) (e : Ending) (w' : World) : Prop := ∃ c : VC, e = .returned c.val ∧ RV (fun b => w.heap.size ≤ b) w' c y ∧ Below w.heap.size w w'

/-- the blocks of Set -/
structure SeI (w : World) (e r : VC) (g7 : Nat) (wr : World) : Prop where
  b1 : Blk wr (w.heap.size + 1) 25 e.arr
  b2 : Blk wr (w.heap.size + 1 + 1) 25 VC.zero.arr
  b7 : Blk wr g7 25 r.arr
  hg : w.heap.size + 3 ≤ g7
  bel : Below w.heap.size w wr
theorem SeI.step {w : World} {e r : VC} {g7 : Nat} {wr w' : World} (h : SeI w e r g7 wr) (hb : Below wr.heap.size wr w') : SeI w e r g7 w' := ⟨h.b1.step hb, h.b2.step hb, h.b7.step hb, h.hg, h.bel.step' hb⟩


/-- behind the append -/
structure AddD (w : World) (r' : VC) (g7 : Nat) (y : Val) (wr : World) : Prop where
  b2 : Blk wr (w.heap.size + 1 + 1) 25 VC.zero.arr
  b7 : Blk wr g7 25 r'.arr
  bel : Below w.heap.size w wr
  rv : RV (fun b => w.heap.size + 3 ≤ b) wr r' y
theorem AddD.mk' {w w1 w2 w3 w4 : World} {e c2 : VC} {rn : Int} {rt : ByteArray} {rLA rDA A4 : Option Addr} {rln rlc rdn rdc g7 mid2 cap : Nat} {x v : Val} {name : ByteArray} {fs : List PF} {ps : List PV} {o : Obj}
    (hn : name.size ≤ reach) (hk : x.k = 5) (hxn : rn = x.n) (hxt : rt = x.t) (htz : x.t.size ≤ reach) (hx : fs.map Prod.snd = x.d) (hp : ps.map Prod.snd = x.l) (hg7 : g7 = w1.heap.size) (hfl : fs.length = rdn)
    (hI : SeI w e ⟨5, rn, rt, rLA, rln, rlc, rDA, rdn, rdc⟩ g7 w2) (hb12 : Below w1.heap.size w1 w2) (hlt2 : w1.heap.size < w2.heap.size) (hb3 : Below w2.heap.size w2 w3)
    (hs : (Value.slice rDA rdn rdc).ownBlock ≠ some g7) (hlow : ∀ b, (Value.slice rDA rdn rdc).ownBlock = some b → w.heap.size + 3 ≤ b ∧ b < g7)
    (hsl : SL (fun b => (w.heap.size + 3 ≤ b ∧ (Value.slice rDA rdn rdc).ownBlock ≠ some b) ∧ b < w1.heap.size) w1 rLA rln rlc ps)
    (hfs : ∀ p ∈ fs, p.2.s.size ≤ reach ∧ RV (fun b => (w.heap.size + 3 ≤ b ∧ (Value.slice rDA rdn rdc).ownBlock ≠ some b) ∧ b < w1.heap.size) w1 p.1 p.2.v)
    (hc2 : Cl w2.heap.size mid2 w3 c2 v) (hg : (w3.alloc o).grownBy w4 (Value.slice rDA rdn rdc).ownBlock) (hdz : (rdn + 1) * 96 ≤ reach)
    (hat : (Value.slice A4 (rdn + 1) cap).ownBlock = (Value.slice rDA rdn rdc).ownBlock ∨ (Value.slice A4 (rdn + 1) cap).ownBlock = some (w3.alloc o).heap.size)
    (ho : w4.ownsRow (w.heap.size + 3) 42 6 (.slice A4 (rdn + 1) cap) (rdn + 1) (flat recF fs ++ recF (c2, .mk name v))) :
    AddD w ⟨5, rn, rt, rLA, rln, rlc, A4, rdn + 1, cap⟩ g7 (addV x name v) (w4.setCell ⟨g7, 4, none⟩ (.slice A4 (rdn + 1) cap)) := by
  have h7 := hI.hg
  have sz3 := hb3.size
  have keep : ∀ b, b < w3.heap.size → b ≠ g7 → (Value.slice rDA rdn rdc).ownBlock ≠ some b → (w4.setCell ⟨g7, 4, none⟩ (.slice A4 (rdn + 1) cap)).heap[b]? = w3.heap[b]? := by
    intro b hb hbg hbo
    rw [Below.heap_setCell _ _ _ _ hbg, hg.block b (by simp; omega) (fun e => hbo e.symm)]
    exact Below.heap_alloc w3 o b hb
  have keep1 : ∀ b, b < w1.heap.size → (Value.slice rDA rdn rdc).ownBlock ≠ some b → (w4.setCell ⟨g7, 4, none⟩ (.slice A4 (rdn + 1) cap)).heap[b]? = w1.heap[b]? := by
    intro b hb hbo
    rw [keep b (by omega) (by omega) hbo, hb3.block b (by omega), hb12.block b hb]
  have I3 := hI.step hb3
  have hsl' : SL (fun b => w.heap.size + 3 ≤ b) (w4.setCell ⟨g7, 4, none⟩ (.slice A4 (rdn + 1) cap)) rLA rln rlc ps := hsl.keepG fun b hb hl => ⟨hb.1.1, keep1 b hl hb.1.2⟩
  have hown : (w4.setCell ⟨g7, 4, none⟩ (.slice A4 (rdn + 1) cap)).ownsRow (w.heap.size + 3) 42 6 (.slice A4 (rdn + 1) cap) (rdn + 1) (flat recF (fs ++ [(c2, .mk name v)])) := by
    rw [flat_snoc]
    refine own_keep ho fun b hb => Below.heap_setCell _ _ _ _ ?_
    show b ≠ g7
    rcases hat with h | h
    · rw [h] at hb
      intro e
      exact hs (by rw [hb, e])
    · rw [h] at hb
      simp at hb
      omega
  obtain ⟨A, cc, heq, hsd⟩ := SD.of_own (F := fun b => w.heap.size + 3 ≤ b) hown (by simp [hfl]) hdz (fun _ h => h)
    (fun p hp => by
      rcases List.mem_append.1 hp with hp | hp
      · exact (hfs p hp).1
      · simp at hp; subst hp; exact hn)
    (fun p hp => by
      rcases List.mem_append.1 hp with hp | hp
      · exact (hfs p hp).2.keepG fun b hb hl => ⟨hb.1.1, keep1 b hl hb.1.2⟩
      · simp at hp
        subst hp
        refine hc2.rv.keepG fun b hb hl => ⟨by omega, keep b hl (by omega) fun hh => ?_⟩
        have := (hlow b hh).2
        omega)
  cases heq
  refine ⟨?_, ?_, ?_, ?_⟩
  · refine Blk.far ?_ (by show w.heap.size + 1 + 1 ≠ g7; omega) _
    exact (I3.b2.alloc o).grown hg (fun hh => by have := (hlow _ hh.symm).1; omega)
  · exact ((I3.b7.alloc o).grown hg (fun hh => hs hh.symm)).set_ 4 _
  · refine Below.setCell ?_ (by show w.heap.size ≤ g7; omega) _
    exact (I3.bel.alloc I3.bel.size o).grown hg (by have := I3.bel.size; show _ ≤ (w3.alloc o).heap.size; simp; omega) (fun k hk => by have := (hlow k hk).1; omega)
  · have := RV.of_slices (k := 5) (m := rn) (t := rt) (by rw [hxt]; exact htz) hsl' hsd
    rw [hp, List.map_append, hx] at this
    unfold addV
    rw [hk, ← hxn, ← hxt]
    exact this

theorem AddD.done {w : World} {r' : VC} {g7 : Nat} {y : Val} {wr : World} (h : AddD w r' g7 y wr) : SetOk y w (.returned r'.val) (setV wr (w.heap.size + 1 + 1) 0 r') :=
  ⟨r', rfl, (h.rv.keepG (G := fun b => w.heap.size ≤ b) (w' := setV wr (w.heap.size + 1 + 1) 0 r') fun b hb _ => ⟨by omega, heap_setV (by omega)⟩), below_setV h.bel (by omega) _ _⟩

set_option maxRecDepth 100000 in
set_option maxHeartbeats 2000000 in
theorem set_new (x v : Val) (c e : VC) (name : ByteArray) (w : World) (h : RW w c x) (he : RW w e v) (hk : x.k = 5) (hf : findI x name = -1) (hn : name.size ≤ reach) (hbig : (x.d.length + 1) * 96 ≤ reach) :
    Calls Tryd.prog 28 #[c.val, .string name, e.val] w (SetOk (addV x name v) w) := by
  obtain ⟨j0, hj0, hy0, hy1, hy2⟩ := info_parts info_field
  have H := Lib.hid h
  have HE := Lib.hid he
  have HK := Lib.hid hk
  have HF := Lib.hid hf
  have HNm := Lib.hid hn
  have HBig := Lib.hid hbig
  clear h he hk hf hn hbig
  go_enter Tryd.func28, Tryd.ntmps28
  go_wp2_with fail
  have A3 : Below w.heap.size w (((w.alloc (Obj.cells c.arr 25)).alloc (Obj.cells e.arr 25)).alloc (Obj.cells VC.zero.arr 25)) := (((Below.refl _ _).alloc (Nat.le_refl _) _).alloc (by simp) _).alloc (by simp; omega) _
  have s3 : (((w.alloc (Obj.cells c.arr 25)).alloc (Obj.cells e.arr 25)).alloc (Obj.cells VC.zero.arr 25)).heap.size = w.heap.size + 3 := by simp
  have B1 : Blk (((w.alloc (Obj.cells c.arr 25)).alloc (Obj.cells e.arr 25)).alloc (Obj.cells VC.zero.arr 25)) (w.heap.size + 1) 25 e.arr := (Blk.new_at (by simp)).alloc _
  have B2 : Blk (((w.alloc (Obj.cells c.arr 25)).alloc (Obj.cells e.arr 25)).alloc (Obj.cells VC.zero.arr 25)) (w.heap.size + 1 + 1) 25 VC.zero.arr := Blk.new_at (by simp)
  refine (clone_any x c _ (H.out.step A3)).mono ?_
  rintro e1 w1 ⟨r, mid, rfl, hcl, hb1⟩
  rw [s3] at hcl
  have hrk : r.k = 5 := hcl.k.trans HK.out
  obtain ⟨rk, rn, rt, rLA, rln, rlc, rDA, rdn, rdc⟩ := r
  simp only at hrk
  subst hrk
  have I1 : SeI w e ⟨5, rn, rt, rLA, rln, rlc, rDA, rdn, rdc⟩ w1.heap.size (w1.alloc (Obj.cells #[.int .i64 5, .int .i64 rn, .string rt, .slice rLA rln rlc, .slice rDA rdn rdc] 25)) :=
    ⟨(B1.step hb1).alloc _, (B2.step hb1).alloc _, Blk.new_at rfl, by have := hb1.size; rw [s3] at this; exact this, (A3.step' hb1).alloc (A3.step' hb1).size _⟩
  obtain ⟨fs, hfs, hown, hrv⟩ := hcl.own
  simp only at hown hrv
  have hs : (Value.slice rDA rdn rdc).ownBlock ≠ some w1.heap.size := fun hh => absurd (own_lt hown hh) (by omega)
  have hs1 : (Value.slice rDA rdn rdc).ownBlock ≠ some (w.heap.size + 1) := own_ne hown (by omega)
  have hs2 : (Value.slice rDA rdn rdc).ownBlock ≠ some (w.heap.size + 1 + 1) := own_ne hown (by omega)
  obtain ⟨ps, hps, hsl⟩ := hcl.lst
  simp only at hsl
  have hlow : ∀ b, (Value.slice rDA rdn rdc).ownBlock = some b → w.heap.size + 3 ≤ b ∧ b < w1.heap.size := fun b hh => ⟨own_ge hown b hh, own_lt hown hh⟩
  have HPS := Lib.hid hps
  have HSL := Lib.hid hsl
  have HLO := Lib.hid hlow
  have HFS := Lib.hid hfs
  have HOW := Lib.hid hown
  have HRV : Hid (∀ p ∈ fs, p.2.s.size ≤ reach ∧ RV (fun b => (w.heap.size + 3 ≤ b ∧ (Value.slice rDA rdn rdc).ownBlock ≠ some b) ∧ b < w1.heap.size) w1 p.1 p.2.v) := fun p hp => ⟨(hrv p hp).1, (hrv p hp).2.lt⟩
  have HFL : Hid (fs.length = rdn) := by have := hcl.dn; simp only at this; rw [Hid, this, ← hfs]; simp
  clear hfs hown hrv hps hsl hlow
  have C1 := Lib.hid hcl
  have R1 := Lib.hid (hcl.rv.mono (G := fun _ => True) fun _ _ => trivial)
  have J1 := Lib.hid I1
  have E1 := Lib.hid (HE.out.step (A3.step' hb1))
  clear hcl I1 A3 B1 B2 s3 hb1
  go_wp2_with fail
  refine (find_any x _ name _ (R1.out.alloc _)).mono ?_
  rintro e2 w2 ⟨rfl, hb2⟩
  rw [HF.out]
  have hA1 := (Below.refl w1.heap.size w1).alloc (Nat.le_refl _) (Obj.cells #[.int .i64 5, .int .i64 rn, .string rt, .slice rLA rln rlc, .slice rDA rdn rdc] 25)
  have C2 := Lib.hid ((C1.out.step hA1).step hb2)
  have J2 := Lib.hid (J1.out.step hb2)
  have HOW2 := Lib.hid (own_step (own_step HOW.out hA1) hb2)
  have HB12 := Lib.hid (hA1.step' hb2)
  have HLT : Hid (w1.heap.size < w2.heap.size) := by have := hb2.size; simp at this; exact this
  have E2 := Lib.hid ((E1.out.step hA1).step hb2)
  obtain ⟨g7, hg7⟩ : ∃ g, g = w1.heap.size := ⟨_, rfl⟩
  have HG7 := Lib.hid hg7
  rw [← hg7] at J2 hs ⊢
  clear hb2 hA1 C1 R1 J1 E1 HOW hg7
  have q4 := J2.out.b7.cell 4
  obtain ⟨v0, v1, v2, v3, v4⟩ := VAt.of_blk J2.out.b1
  simp at q4
  simp only [Nat.zero_add] at v1 v2 v3 v4
  have hdz : (rdn + 1) * 96 ≤ 140737488355328 := by have h1 := C2.out.dn; simp only at h1; rw [h1]; exact HBig.out
  have HXN : Hid (rn = x.n) := C2.out.n
  have HZ : Hid ((rdn + 1) * 96 ≤ reach) := by have h1 := C2.out.dn; simp only at h1; rw [Hid, h1]; exact HBig.out
  have HXT : Hid (rt = x.t) := C2.out.t
  have HTZ := Lib.hid C2.out.tsz
  have l2 := J2.out.b7.lt
  have hg3 := J2.out.hg
  go_upto_region 8 with fail
  go_region_law (first
    | (refine step_append_any _ rfl (.tmp 29) (.tmp 34) 23 rfl (w.heap.size + 3) 42 j0 (.agg (#[.string ByteArray.empty] ++ VC.zero.arr)) 6 96 Tryd.underlying23 hj0 hy0 hy1 hy2 rfl (by decide) (.slice rDA rdn rdc) rdn (flat recF fs) (by simp [Act.eval]) ((own_step HOW2.out HB3.out).alloc _) (w3.heap.size + 1) (some ⟨w3.heap.size, 0, none⟩) 1 1 (recF (c2, .mk name v)) (by simp [Act.eval]) ⟨rfl, fun _ => ⟨_, rfl, by simp, news_at _ _ _⟩⟩ (recF_one _) (by simp only [maxLen]; omega) (by omega) (by simp; have := HB3.out.size; omega) ?_; intro v' w4 hown4 hgr hat; obtain ⟨A4, cap, hv4, hle4⟩ := own_slice hown4; rw [hv4]; have f2 : w4.cell? ⟨g7, 4, none⟩ = some (.slice rDA rdn rdc) := gr_cell hgr s0 hs; have z2 : w4.frozen? ⟨g7, 4, none⟩ = false := (gr_frozen hgr (J2.out.step HB3.out).b7.lt hs).trans ((J2.out.step HB3.out).b7.frozen 4); have t1 := gr_cell hgr s1 hs1; have t2 := gr_cell hgr s2 hs1; have t3 := gr_cell hgr s3 hs1; have t4 := gr_cell hgr s4 hs1; have t5 := gr_cell hgr s5 hs1)
    | (go_simp; go_at_call 46; refine (clone_any v e _ (E2.out.drewN 1)).mono ?_; rintro e3 w3 ⟨c2, mid2, rfl, hcl2, hb3⟩; replace hb3 : Below w2.heap.size w2 w3 := hb3.undrewN; replace hcl2 : Cl w2.heap.size mid2 w3 c2 v := hcl2; have s0 := (hb3.cell (p := ⟨g7, 4, none⟩) J2.out.b7.lt).trans q4; have s1 := (hb3.cell (p := ⟨w.heap.size + 1, 0, none⟩) J2.out.b1.lt).trans v0; have s2 := (hb3.cell (p := ⟨w.heap.size + 1, 1, none⟩) J2.out.b1.lt).trans v1; have s3 := (hb3.cell (p := ⟨w.heap.size + 1, 2, none⟩) J2.out.b1.lt).trans v2; have s4 := (hb3.cell (p := ⟨w.heap.size + 1, 3, none⟩) J2.out.b1.lt).trans v3; have s5 := (hb3.cell (p := ⟨w.heap.size + 1, 4, none⟩) J2.out.b1.lt).trans v4; have l3 : g7 < w3.heap.size := (J2.out.step hb3).b7.lt; have HC3 := Lib.hid hcl2; have HB3 := Lib.hid hb3; clear hcl2 hb3))
  all_goals
    have hD := AddD.mk' HNm.out HK.out HXN.out HXT.out HTZ.out HFS.out HPS.out HG7.out HFL.out J2.out HB12.out HLT.out HB3.out hs (by rw [HG7.out]; exact HLO.out) HSL.out HRV.out HC3.out hgr HZ.out (by rw [← hv4]; exact hat) (by rw [← hv4]; exact hown4)
    have HD := Lib.hid hD
    obtain ⟨a0, a1, a2, a3, a4⟩ := VAt.of_blk hD.b7
    obtain ⟨b0, b1, b2, b3, b4⟩ := VAt.of_blk hD.b2
    have z := hD.b2.frozen
    clear hD f2 z2 t1 t2 t3 t4 t5 s0 s1 s2 s3 s4 s5 q4 v0 v1 v2 v3 v4 hgr hat hown4 hv4
    generalize w4.setCell ⟨g7, 4, none⟩ (.slice A4 (rdn + 1) cap) = w5 at *
    go_wp2_with fail
    have q := VAt.of_blk (HD.out.b2.putV ⟨5, rn, rt, rLA, rln, rlc, A4, rdn + 1, cap⟩)
    refine bodyPost_ret (results_val rfl _ _ _ rfl _ ⟨5, rn, rt, rLA, rln, rlc, A4, rdn + 1, cap⟩ q) rfl ?_
    exact HD.out.done

end Go.Proofs.YtckeccfbadlhhaaDoor
