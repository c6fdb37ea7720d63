/- Parts of the proof, joined: RoSame, RoROwn, RoOwnWalk, ValOpenL, RoOwnLaw. -/
import Derived.Test.YtblepmmibhphhaaGreatDoorRo4
import Derived.Test.YtblepmmibhphhaaGreatDoorB8
import Derived.Test.YtblepmmibhphhaaGreatDoorB2
import Derived.Test.YtblepmmibhphhaaGreatDoorB18
import Derived.Test.YtblepmmibhphhaaGreatDoorB4
import Derived.Test.YtblepmmibhphhaaGreatDoorCards
import Derived.Test.YtblepmmibhphhaaGreatDoorTie
import Derived.Deep.RegionHeld3
import Derived.Lib.LaidIn
import Derived.Lib.LaidU8T
import Derived.PinnedBridge
import Derived.Deep.DeepHandedRow
import Derived.Deep.DeepWitnessRowRef
import Derived.ProofKit
import Derived.SizedLaws
import Derived.OpenShut
import Derived.ShutString
import Derived.ChangeOld
import Derived.Below
import Derived.SevenTiedAt
/- docstorelaw03.Same and SameList at equal values. Printed by gen_rosame.py. -/
namespace Go.Proofs.YtblepmmibhphhaaGreatDoor
open Go.RowKit
set_option linter.unusedSimpArgs false

def SameEq (x : Val) : Prop := ∀ (c d : VC) (w : World), RW w c x → RW w d x → Calls Tryz.prog 60 #[c.val, d.val] w fun e w' => e = .returned (.bool true) ∧ Below w.heap.size w w'
set_option maxRecDepth 100000 in
set_option maxHeartbeats 4000000 in
theorem samelist03_of (L : List Val) (ih : ∀ x ∈ L, SameEq x) (ps qs : List PV) (A B : Option Addr) (n c m d : Nat) (w : World) (h : SL (fun _ => True) w A n c ps) (h' : SL (fun _ => True) w B m d qs) (hp : ps.map Prod.snd = L) (hq : qs.map Prod.snd = L) :
    Calls Tryz.prog 26 #[.slice A n c, .slice B m d] w fun e w' => e = .returned (.bool true) ∧ Below w.heap.size w w' := by
  have hn1 : n = L.length := by rw [← hp, List.length_map]; exact h.sr.ln
  have hn2 : m = L.length := by rw [← hq, List.length_map]; exact h'.sr.ln
  obtain rfl : m = n := by omega
  have hz := h.sz
  unfold reach at hz
  have hz2 : (m : Int) ≤ 140737488355328 := by omega
  have P1 := Lib.hid h
  have P2 := Lib.hid h'
  have HS1 := Lib.hid hp
  have HS2 := Lib.hid hq
  have HN1 := Lib.hid hn1
  have IH := Lib.hid ih
  have mm : ((m : Int) != (m : Int)) = false := by simp
  clear h h' hp hq hn1 hn2 ih hz
  go_enter Tryz.func26, Tryz.ntmps26
  go_wp2_with fail
  go_loopw [13] (fun v13 wr => ∃ i : Nat, i ≤ m ∧ v13 = .int .i64 i ∧ Below w.heap.size w wr) (fun v13 _ => m - (intOf v13).toNat)
  case atStart => exact ⟨0, Nat.zero_le _, rfl, Below.refl _ _⟩
  case round =>
    obtain ⟨i, hi1, rfl, hbel⟩ := hrel
    have HB := Lib.hid hbel
    by_cases hlt : i < m
    · obtain ⟨p, hp⟩ : ∃ p, ps[i]? = some p := ⟨_, List.getElem?_eq_getElem (by have := P1.out.sr.ln; omega)⟩
      obtain ⟨q, hq⟩ : ∃ q, qs[i]? = some q := ⟨_, List.getElem?_eq_getElem (by have := P2.out.sr.ln; omega)⟩
      obtain ⟨b1, o1, hA1, _, hu1, hr1⟩ := P1.out.vat hp
      obtain ⟨b2, o2, hA2, _, hu2, hr2⟩ := P2.out.vat hq
      subst hA1 hA2
      have g1 : L[i]? = some p.2 := by rw [← HS1.out, List.getElem?_map, hp]; rfl
      have g2 : L[i]? = some q.2 := by rw [← HS2.out, List.getElem?_map, hq]; rfl
      have hpq : q.2 = p.2 := by rw [g1] at g2; exact (Option.some.inj g2).symm
      rw [hpq] at hr2
      obtain ⟨y0, y1, y2, y3, y4⟩ := hu1.keep (hbel.block b1 hu1.lt)
      obtain ⟨z0, z1, z2, z3, z4⟩ := hu2.keep (hbel.block b2 hu2.lt)
      have Y0 : ∀ kk : BW wr, kk.val.cell? ⟨b1, o1 + i * 5, none⟩ = some (.int .i64 p.1.k) := fun kk => kk.cell y0
      have Y1 : ∀ kk : BW wr, kk.val.cell? ⟨b1, o1 + i * 5 + 1, none⟩ = some (.int .i64 p.1.n) := fun kk => kk.cell y1
      have Y2 : ∀ kk : BW wr, kk.val.cell? ⟨b1, o1 + i * 5 + 2, none⟩ = some (.string p.1.t) := fun kk => kk.cell y2
      have Y3 : ∀ kk : BW wr, kk.val.cell? ⟨b1, o1 + i * 5 + 3, none⟩ = some (.slice p.1.LA p.1.ln p.1.lc) := fun kk => kk.cell y3
      have Y4 : ∀ kk : BW wr, kk.val.cell? ⟨b1, o1 + i * 5 + 4, none⟩ = some (.slice p.1.DA p.1.dn p.1.dc) := fun kk => kk.cell y4
      have Z0 : ∀ kk : BW wr, kk.val.cell? ⟨b2, o2 + i * 5, none⟩ = some (.int .i64 q.1.k) := fun kk => kk.cell z0
      have Z1 : ∀ kk : BW wr, kk.val.cell? ⟨b2, o2 + i * 5 + 1, none⟩ = some (.int .i64 q.1.n) := fun kk => kk.cell z1
      have Z2 : ∀ kk : BW wr, kk.val.cell? ⟨b2, o2 + i * 5 + 2, none⟩ = some (.string q.1.t) := fun kk => kk.cell z2
      have Z3 : ∀ kk : BW wr, kk.val.cell? ⟨b2, o2 + i * 5 + 3, none⟩ = some (.slice q.1.LA q.1.ln q.1.lc) := fun kk => kk.cell z3
      have Z4 : ∀ kk : BW wr, kk.val.cell? ⟨b2, o2 + i * 5 + 4, none⟩ = some (.slice q.1.DA q.1.dn q.1.dc) := fun kk => kk.cell z4
      have K0 : Hid (∀ kk : BW wr, Calls Tryz.prog 60 #[p.1.val, q.1.val] kk.val fun e w'' => e = .returned (.bool true) ∧ ∃ kk : BW wr, w'' = kk.val) := fun kk =>
        Calls.bw (IH.out p.2 (List.mem_of_getElem? g1) p.1 q.1 kk.val ((hr1.step hbel).step kk.below) ((hr2.step hbel).step kk.below))
      have hi0 : (0 : Int) ≤ (i : Int) := by omega
      have hi3 : (i : Int) < (m : Int) := by omega
      clear hp hq hu1 hu2 hr1 hr2 g1 g2 hpq hbel y0 y1 y2 y3 y4 z0 z1 z2 z3 z4
      go_upto_region 6 with fail
      refine wp_region_bw (by kernel_rfl) (by kernel_rfl) ?_
      repeat (go_big_quiet_step (with_reducible exact K0.out _))
      refine wpQuiet_nil ?_
      rintro _ ⟨kw, rfl⟩
      have HB2 := Lib.hid (HB.out.step' kw.below)
      clear Y0 Y1 Y2 Y3 Y4 Z0 Z1 Z2 Z3 Z4 K0
      generalize kw.val = w2 at *
      go_wp2_with fail
      go_roundw
      case rel => exact ⟨i + 1, by omega, by go_num, HB2.out⟩
      case measure => simp [intOf]; omega
    · obtain rfl : i = m := by omega
      clear hbel
      go_wp2_with fail
      go_ret
      exact ⟨rfl, HB.out⟩

structure SmI (w : World) (c d : VC) (wr : World) : Prop where
  b0 : Blk wr w.heap.size 28 c.arr
  b1 : Blk wr (w.heap.size + 1) 28 d.arr
  bel : Below w.heap.size w wr
theorem SmI.step {w wr w' : World} {c d : VC} (h : SmI w c d wr) (hb : Below wr.heap.size wr w') : SmI w c d w' := ⟨h.b0.step hb, h.b1.step hb, h.bel.step' hb⟩
set_option maxRecDepth 100000 in
set_option maxHeartbeats 4000000 in
theorem same03_any : ∀ x, SameEq x := by
  intro x
  induction x using Val.ind with
  | h k n t l d ihl ihd =>
  intro c e w hx hy
  obtain ⟨ck, cn, ct, cLA, cln, clc, cDA, cdn, cdc⟩ := c
  obtain ⟨ek, en, et, eLA, eln, elc, eDA, edn, edc⟩ := e
  have hk : ck = k := hx.open.k
  have hn : cn = n := hx.open.n
  have ht : ct = t := hx.open.t
  subst hk hn ht
  have hk2 : ek = ck := hy.open.k
  have hn2 : en = cn := hy.open.n
  have ht2 : et = ct := hy.open.t
  subst hk2 hn2 ht2
  have hd1 : cdn = d.length := hx.open.dn
  have hd2 : edn = d.length := hy.open.dn
  obtain rfl : edn = cdn := by omega
  have I0 : Hid (SmI w ⟨ek, en, et, cLA, cln, clc, cDA, edn, cdc⟩ ⟨ek, en, et, eLA, eln, elc, eDA, edn, edc⟩ ((w.alloc (Obj.cells #[.int .i64 ek, .int .i64 en, .string et, .slice cLA cln clc, .slice cDA edn cdc] 28)).alloc (Obj.cells #[.int .i64 ek, .int .i64 en, .string et, .slice eLA eln elc, .slice eDA edn edc] 28))) :=
    Lib.hid ⟨(Blk.new_at rfl).alloc _, Blk.new_at (by simp), ((Below.refl _ _).alloc (Nat.le_refl _) _).alloc (by simp) _⟩
  obtain ⟨ps, hps, hsl⟩ := hx.sl
  obtain ⟨qs, hqs, hql⟩ := hy.sl
  obtain ⟨fs, hfs, hfl⟩ := hx.sd
  obtain ⟨gs, hgs, hgl⟩ := hy.sd
  simp only at hsl hql hfl hgl
  have hz2 := hfl.sz
  unfold reach at hz2
  have hz3 : (edn : Int) ≤ 140737488355328 := by omega
  have hps' : ps.map Prod.snd = l := hps
  have hqs' : qs.map Prod.snd = l := hqs
  have HLI := Lib.hid fun (wr : World) (hb : Below w.heap.size w wr) => samelist03_of l ihl ps qs cLA eLA cln clc eln elc wr (hsl.step hb) (hql.step hb) hps' hqs'
  have Q1 := Lib.hid hfl
  have Q2 := Lib.hid hgl
  have HT1 : Hid (fs.map Prod.snd = d) := hfs
  have HT2 : Hid (gs.map Prod.snd = d) := hgs
  have ID := Lib.hid ihd
  have a1 : (ek != ek) = false := by simp
  have a2 : (en != en) = false := by simp
  have a3 : (et.toList == et.toList) = true := by simp
  have a4 : ((edn : Int) != (edn : Int)) = false := by simp
  clear hx hy ihl ihd hsl hql hps hqs hps' hqs' hfl hgl hfs hgs hd1 hd2 hz2
  go_enter Tryz.func60, Tryz.ntmps60
  go_wp2_with fail
  go_loopw [37] (fun v wr => ∃ i : Nat, i ≤ edn ∧ v = .int .i64 i ∧ SmI w ⟨ek, en, et, cLA, cln, clc, cDA, edn, cdc⟩ ⟨ek, en, et, eLA, eln, elc, eDA, edn, edc⟩ wr) (fun v _ => edn - (intOf v).toNat)
  case atStart => exact ⟨0, Nat.zero_le _, rfl, I0.out⟩
  case round =>
    obtain ⟨i, hi1, rfl, I⟩ := hrel
    have J := Lib.hid I
    by_cases hlt : i < edn
    · obtain ⟨p, hp⟩ : ∃ p, fs[i]? = some p := ⟨_, List.getElem?_eq_getElem (by have := Q1.out.sr.ln; omega)⟩
      obtain ⟨q, hq⟩ : ∃ q, gs[i]? = some q := ⟨_, List.getElem?_eq_getElem (by have := Q2.out.sr.ln; omega)⟩
      obtain ⟨b1, o1, hA1, _, hs1, hu1, hr1⟩ := Q1.out.vat hp
      obtain ⟨b2, o2, hA2, _, hs2, hu2, hr2⟩ := Q2.out.vat hq
      subst hA1 hA2
      have g1 : d[i]? = some p.2 := by rw [← HT1.out, List.getElem?_map, hp]; rfl
      have g2 : d[i]? = some q.2 := by rw [← HT2.out, List.getElem?_map, hq]; rfl
      have hpq : q.2 = p.2 := by rw [g1] at g2; exact (Option.some.inj g2).symm
      rw [hpq] at hr2 hs2
      obtain ⟨y0, y1, y2, y3, y4⟩ := hu1.keep (I.bel.block b1 hu1.lt)
      obtain ⟨z0, z1, z2, z3, z4⟩ := hu2.keep (I.bel.block b2 hu2.lt)
      have n0 := (I.bel.cell (p := ⟨b1, o1 + i * 6, none⟩) hu1.lt).trans hs1
      have n1 := (I.bel.cell (p := ⟨b2, o2 + i * 6, none⟩) hu2.lt).trans hs2
      have N0 : ∀ kk : BW wr, kk.val.cell? ⟨b1, o1 + i * 6, none⟩ = some (.string p.2.s) := fun kk => kk.cell n0
      have N1 : ∀ kk : BW wr, kk.val.cell? ⟨b2, o2 + i * 6, none⟩ = some (.string p.2.s) := fun kk => kk.cell n1
      have E0 : ∀ kk : BW wr, kk.val.cell? ⟨w.heap.size, 4, none⟩ = some (.slice (some ⟨b1, o1, none⟩) edn cdc) := fun kk => kk.cell (J.out.b0.cell 4)
      have E1 : ∀ kk : BW wr, kk.val.cell? ⟨w.heap.size + 1, 4, none⟩ = some (.slice (some ⟨b2, o2, none⟩) edn edc) := fun kk => kk.cell (J.out.b1.cell 4)
      have Y0 : ∀ kk : BW wr, kk.val.cell? ⟨b1, o1 + i * 6 + 1, none⟩ = some (.int .i64 p.1.k) := fun kk => kk.cell y0
      have Y1 : ∀ kk : BW wr, kk.val.cell? ⟨b1, o1 + i * 6 + 1 + 1, none⟩ = some (.int .i64 p.1.n) := fun kk => kk.cell y1
      have Y2 : ∀ kk : BW wr, kk.val.cell? ⟨b1, o1 + i * 6 + 1 + 2, none⟩ = some (.string p.1.t) := fun kk => kk.cell y2
      have Y3 : ∀ kk : BW wr, kk.val.cell? ⟨b1, o1 + i * 6 + 1 + 3, none⟩ = some (.slice p.1.LA p.1.ln p.1.lc) := fun kk => kk.cell y3
      have Y4 : ∀ kk : BW wr, kk.val.cell? ⟨b1, o1 + i * 6 + 1 + 4, none⟩ = some (.slice p.1.DA p.1.dn p.1.dc) := fun kk => kk.cell y4
      have Z0 : ∀ kk : BW wr, kk.val.cell? ⟨b2, o2 + i * 6 + 1, none⟩ = some (.int .i64 q.1.k) := fun kk => kk.cell z0
      have Z1 : ∀ kk : BW wr, kk.val.cell? ⟨b2, o2 + i * 6 + 1 + 1, none⟩ = some (.int .i64 q.1.n) := fun kk => kk.cell z1
      have Z2 : ∀ kk : BW wr, kk.val.cell? ⟨b2, o2 + i * 6 + 1 + 2, none⟩ = some (.string q.1.t) := fun kk => kk.cell z2
      have Z3 : ∀ kk : BW wr, kk.val.cell? ⟨b2, o2 + i * 6 + 1 + 3, none⟩ = some (.slice q.1.LA q.1.ln q.1.lc) := fun kk => kk.cell z3
      have Z4 : ∀ kk : BW wr, kk.val.cell? ⟨b2, o2 + i * 6 + 1 + 4, none⟩ = some (.slice q.1.DA q.1.dn q.1.dc) := fun kk => kk.cell z4
      have K0 : Hid (∀ kk : BW wr, Calls Tryz.prog 60 #[p.1.val, q.1.val] kk.val fun e w'' => e = .returned (.bool true) ∧ ∃ kk : BW wr, w'' = kk.val) := fun kk =>
        Calls.bw (ID.out p.2 (List.mem_of_getElem? g1) p.1 q.1 kk.val ((hr1.step I.bel).step kk.below) ((hr2.step I.bel).step kk.below))
      have hi0 : (0 : Int) ≤ (i : Int) := by omega
      have hi3 : (i : Int) < (edn : Int) := by omega
      have nn : (p.2.s.toList == p.2.s.toList) = true := by simp
      clear hp hq hu1 hu2 hr1 hr2 g1 g2 hpq I hs1 hs2 n0 n1 y0 y1 y2 y3 y4 z0 z1 z2 z3 z4
      go_upto_region 6 with fail
      refine wp_region_bw (by kernel_rfl) (by kernel_rfl) ?_
      repeat (go_big_quiet_step (with_reducible exact K0.out _))
      refine wpQuiet_nil ?_
      rintro _ ⟨kw, rfl⟩
      have J2 := Lib.hid (J.out.step kw.below)
      clear E0 E1 N0 N1 Y0 Y1 Y2 Y3 Y4 Z0 Z1 Z2 Z3 Z4 K0
      generalize kw.val = w2 at *
      go_wp2_with fail
      go_roundw
      case rel => exact ⟨i + 1, by omega, by go_num, J2.out⟩
      case measure => simp [intOf]; omega
    · obtain rfl : i = edn := by omega
      have q0 := I.b0.cell 3
      have q1 := I.b1.cell 3
      have r0 := I.b0.cell 4
      simp at q0 q1 r0
      clear I
      go_wp2_with fail
      refine (HLI.out _ J.out.bel).mono ?_
      rintro e w5 ⟨rfl, hb⟩
      have CE := Lib.hid (J.out.bel.step' hb)
      clear hb q0 q1 r0
      go_wp2_with fail
      go_ret
      exact ⟨rfl, CE.out⟩

theorem samelist03_eq (ps qs : List PV) (A B : Option Addr) (n c m d : Nat) (w : World) (h : SL (fun _ => True) w A n c ps) (h' : SL (fun _ => True) w B m d qs) (he : qs.map Prod.snd = ps.map Prod.snd) :
    Calls Tryz.prog 26 #[.slice A n c, .slice B m d] w fun e w' => e = .returned (.bool true) ∧ Below w.heap.size w w' :=
  samelist03_of _ (fun x _ => same03_any x) ps qs A B n c m d w h h' rfl he
end Go.Proofs.YtblepmmibhphhaaGreatDoor


/- The contract of the reference's Own. -/
namespace Go.Proofs.YtblepmmibhphhaaGreatDoor
open Go.RowKit
set_option linter.unusedSimpArgs false

noncomputable def rownP (R : Ro) (s : Int) (x : Val) : Bool := decide ((rencR R.ks R.ha x).2 = 0) && rownsB R s (rencR R.ks R.ha x).1
noncomputable def rownL (R : Ro) (s : Int) (l : List Val) : List Val := l.filter (rownP R s)
theorem rownL_at {R : Ro} {s : Int} {l : List Val} {i : Nat} {x : Val} (h : l[i]? = some x) : rownL R s (l.drop i) = (if rownP R s x then [x] else []) ++ rownL R s (l.drop (i + 1)) := by
  rw [drop_of h]
  unfold rownL
  rw [List.filter_cons]
  split <;> rfl
theorem VR.ownL {R : Ro} (h : VR R) (s : Int) (l : List Val) : rownL R s l = ownL R s l := by
  have hk := keyE_parts h.ke
  unfold rownL Proofs.YtblepmmibhphhaaGreatDoor.ownL
  congr 1
  funext x
  unfold rownP ownP
  rw [enc_same hk.2.2, h.owns]

set_option maxRecDepth 100000 in
set_option maxHeartbeats 4000000 in
theorem rown_any (R : Ro) (a : RA) (s : Int) (ps : List PV) (A : Option Addr) (n cc : Nat) (w : World) (h : RR w a R) (hp : SL (fun _ => True) w A n cc ps) (h8 : R.ks.length ≤ 8) (hn : n ≤ 1000) :
    Calls Tryz.prog 28 #[rval a R, .int .i64 s, .slice A n cc] w (OwnOk (rownL R s (ps.map Prod.snd)) w) := by
  obtain ⟨i0, hi0, hy0, hy1, hy2⟩ := info_parts info_value
  have HOW := Lib.hid fun (key : ByteArray) (wr : World) (hb : Below w.heap.size w wr) => rowns_any R a s key wr (h.step hb)
  obtain ⟨KA, kn, kc, CA, cn, c1⟩ := a
  have HKS : Hid (KS w KA kn kc R.ks) := h.ks
  have HPS := Lib.hid hp
  have HN := Lib.hid hp.sr.ln
  have hn2 : (n : Int) ≤ 1000 := by omega
  have I0 : Hid (OwJ w (rarr ⟨KA, kn, kc, CA, cn, c1⟩ R) (.slice none 0 0) [] (w.alloc (Obj.cells (rarr ⟨KA, kn, kc, CA, cn, c1⟩ R) 45))) :=
    ⟨Blk.new_at rfl, by simp, ⟨own_nil _ _ _ _, fun p hp => by simp at hp, (Below.refl _ _).alloc (Nat.le_refl _) _⟩, by simp [Value.ownBlock]⟩
  clear h hp
  go_enter Tryz.func28, Tryz.ntmps28
  go_upto_region 2 with fail
  change Code.wp _ _ _ _ (w.alloc (Obj.cells (rarr ⟨KA, kn, kc, CA, cn, c1⟩ R) 45))
  generalize w.alloc (Obj.cells (rarr ⟨KA, kn, kc, CA, cn, c1⟩ R) 45) = wa at *
  go_upto_region 3 with fail
  go_loopw [7, 8] (fun u7 u8 wr => ∃ (i : Nat) (qs : List PV), i ≤ n ∧ qs.length ≤ i ∧ u8 = .int .i64 i ∧ rownL R s (ps.map Prod.snd) = qs.map Prod.snd ++ rownL R s ((ps.map Prod.snd).drop i) ∧ OwJ w (rarr ⟨KA, kn, kc, CA, cn, c1⟩ R) u7 qs wr) (fun _ u8 _ => n - (intOf u8).toNat)
  case atStart => exact ⟨0, [], Nat.zero_le _, Nat.le_refl _, rfl, rfl, I0.out⟩
  case round =>
    obtain ⟨i, qs, hi, hql, rfl, hall, J⟩ := hrel
    have HQL := Lib.hid hql
    have HA := Lib.hid hall
    have J2 := Lib.hid J
    clear hql hall J I0
    by_cases hlt : i < n
    · obtain ⟨p, hp⟩ : ∃ p, ps[i]? = some p := ⟨_, List.getElem?_eq_getElem (by have := HN.out; omega)⟩
      obtain ⟨b, off, hA, _, hat, hrv⟩ := HPS.out.vat hp
      subst hA
      have HPL : Hid ((ps.map Prod.snd)[i]? = some p.2) := by unfold Hid; rw [List.getElem?_map, hp]; rfl
      obtain ⟨y0, y1, y2, y3, y4⟩ := hat.keep (J2.out.vs.bel.block b hat.lt)
      have HAT := Lib.hid hat
      have HRV := Lib.hid hrv
      have i0' : (0 : Int) ≤ (i : Int) := by omega
      have i1' : (i : Int) < (n : Int) := by omega
      obtain ⟨q0, q1, q2, q3, q4, q5, qz⟩ := blk_ro J2.out.b0
      simp only at q1 q5
      have g1 : ∀ kk : BW wr, kk.val.cell? ⟨w.heap.size, 1, none⟩ = some (.slice KA kn kc) := fun kk => kk.cell q1
      have g2 : ∀ kk : BW wr, kk.val.cell? ⟨w.heap.size, 2, none⟩ = some (.bool R.ha) := fun kk => kk.cell q2
      have Y0 : ∀ kk : BW wr, kk.val.cell? ⟨b, off + i * 5, none⟩ = some (.int .i64 p.1.k) := fun kk => kk.cell y0
      have Y1 : ∀ kk : BW wr, kk.val.cell? ⟨b, off + i * 5 + 1, none⟩ = some (.int .i64 p.1.n) := fun kk => kk.cell y1
      have Y2 : ∀ kk : BW wr, kk.val.cell? ⟨b, off + i * 5 + 2, none⟩ = some (.string p.1.t) := fun kk => kk.cell y2
      have Y3 : ∀ kk : BW wr, kk.val.cell? ⟨b, off + i * 5 + 3, none⟩ = some (.slice p.1.LA p.1.ln p.1.lc) := fun kk => kk.cell y3
      have Y4 : ∀ kk : BW wr, kk.val.cell? ⟨b, off + i * 5 + 4, none⟩ = some (.slice p.1.DA p.1.dn p.1.dc) := fun kk => kk.cell y4
      obtain ⟨⟨K1, K2⟩, hK⟩ : ∃ K, rencR R.ks R.ha p.2 = K := ⟨_, rfl⟩
      have KE : Hid (∀ kk : BW wr, Calls Tryz.prog 13 #[.agg #[.slice KA kn kc, .bool R.ha], p.1.val] kk.val fun e w'' => e = .returned (.tuple #[.string K1, .int .i64 K2]) ∧ ∃ kk : BW wr, w'' = kk.val) := fun kk =>
        Calls.bw (by have := rsenc_any R.ks R.ha KA kn kc p.2 p.1 kk.val ((HKS.out.step J2.out.vs.bel).step kk.below) ((HRV.out.step J2.out.vs.bel).step kk.below) h8; rw [hK] at this; exact this)
      have HK := Lib.hid hK
      clear hp hat hrv hK y0 y1 y2 y3 y4 q0 q1 q2 q3 q4 q5 qz
      go_upto_region 5 with fail
      refine wp_region_bw (by kernel_rfl) (by kernel_rfl) ?_
      repeat (go_big_quiet_step (with_reducible exact KE.out _))
      refine wpQuiet_nil ?_
      rintro _ ⟨kw, rfl⟩
      have J3 := Lib.hid (J2.out.step kw.below)
      clear g1 g2 Y0 Y1 Y2 Y3 Y4 KE J2
      generalize kw.val = w1 at *
      obtain ⟨q0, q1, q2, q3, q4, q5, qz⟩ := blk_ro J3.out.b0
      simp only at q1 q5
      by_cases hk : K2 = 0
      rotate_left
      · have hkb : (K2 == 0) = false := by simpa using hk
        have HF : Hid (rownL R s (ps.map Prod.snd) = qs.map Prod.snd ++ rownL R s ((ps.map Prod.snd).drop (i + 1))) := by
          have : rownP R s p.2 = false := by unfold rownP; rw [HK.out, decide_eq_false hk]; rfl
          unfold Hid
          rw [HA.out, rownL_at HPL.out, this]
          rfl
        clear hk
        go_wp2_with fail
        go_roundw
        case rel => exact ⟨i + 1, qs, hlt, by have := HQL.out; omega, by go_num, HF.out, J3.out⟩
        case measure => simp [intOf]; omega
      subst hk
      have HO1 := Lib.hid (HOW.out K1 w1 J3.out.vs.bel)
      cases ho : rownsB R s K1
      · have HF : Hid (rownL R s (ps.map Prod.snd) = qs.map Prod.snd ++ rownL R s ((ps.map Prod.snd).drop (i + 1))) := by
          have : rownP R s p.2 = false := by unfold rownP; rw [HK.out, ho, Bool.and_false]
          unfold Hid
          rw [HA.out, rownL_at HPL.out, this]
          rfl
        rw [ho] at HO1
        clear ho
        go_wp2_with fail
        refine HO1.out.mono ?_
        rintro e w2 ⟨rfl, hb⟩
        have J5 := Lib.hid (J3.out.step hb)
        clear hb HO1 J3 q0 q1 q2 q3 q4 q5 qz
        go_wp2_with fail
        go_roundw
        case rel => exact ⟨i + 1, qs, hlt, by have := HQL.out; omega, by go_num, HF.out, J5.out⟩
        case measure => simp [intOf]; omega
      · have HF : Hid (rownL R s (ps.map Prod.snd) = (qs.map Prod.snd ++ [p.2]) ++ rownL R s ((ps.map Prod.snd).drop (i + 1))) := by
          have : rownP R s p.2 = true := by unfold rownP; rw [HK.out, ho]; rfl
          unfold Hid
          rw [HA.out, rownL_at HPL.out, this]
          simp
        rw [ho] at HO1
        clear ho
        go_wp2_with fail
        refine HO1.out.mono ?_
        rintro e w2 ⟨rfl, hb⟩
        have J5 := Lib.hid (J3.out.step hb)
        clear hb HO1 J3 q0 q1 q2 q3 q4 q5 qz
        obtain ⟨y0, y1, y2, y3, y4⟩ := HAT.out.keep (J5.out.vs.bel.block b HAT.out.lt)
        have hlo : w.heap.size ≤ w2.heap.size := J5.out.vs.bel.size
        have hqi : qs.length ≤ 1000 := by have := HQL.out; omega
        have LK := Lib.hid (J5.out.step ((Below.refl w2.heap.size w2).alloc (Nat.le_refl _) (Obj.cells p.1.arr 28)))
        have HRZ : Hid (RV (fun b => Value.ownBlock u7 ≠ some b) (w2.alloc (Obj.cells p.1.arr 28)) p.1 p.2) := ((HRV.out.lt.step J5.out.vs.bel).alloc _).mono fun b hb' => J5.out.vs.far (.inl hb'.2)
        clear J5
        go_wp2_with (at_builtin; refine wpList_append_any _ rfl _ _ 25 rfl w.heap.size 28 i0 VC.zero.val 5 80 Tryz.underlying25 hi0 hy0 hy1 hy2 rfl (by decide) u7 qs.length (flat recV qs) rfl LK.out.vs.own _ _ 1 _ (recV p) rfl ⟨rfl, fun _ => ⟨_, rfl, Nat.lt_succ_self _, news_at _ _ _⟩⟩ (recV_one _) (by unfold maxLen; omega) (by omega) (alloc_le hlo _) ?_)
        intro v' w6 hown hgr hat
        have HI := Lib.hid (LK.out.add (p := p) HRZ.out rfl hown hgr (by rw [size_alloc]; exact hat))
        clear hown hgr hat LK HRZ y0 y1 y2 y3 y4
        go_wp2_with fail
        go_roundw
        case rel => exact ⟨i + 1, qs ++ [p], hlt, by rw [List.length_append]; have := HQL.out; simp; omega, by go_num, by rw [HF.out]; simp, HI.out⟩
        case measure => simp [intOf]; omega
    · obtain rfl : i = n := by omega
      have HF : Hid (rownL R s (ps.map Prod.snd) = qs.map Prod.snd) := by
        unfold Hid
        rw [HA.out, List.drop_of_length_le (by rw [List.length_map]; have := HN.out; omega)]
        simp [rownL]
      obtain ⟨A1, c2, hu, hsl⟩ := J2.out.vs.sl (by have := HQL.out; omega)
      have HSL := Lib.hid hsl
      subst hu
      clear hsl
      go_wp2_with fail
      go_ret
      exact ⟨A1, qs.length, c2, qs, rfl, HF.out.symm, HSL.out, J2.out.vs.bel⟩

end Go.Proofs.YtblepmmibhphhaaGreatDoor


/- The walk of RouterOwn. -/
namespace Go.Proofs.YtblepmmibhphhaaGreatDoor
open Go.RowKit
set_option linter.unusedSimpArgs false

set_option maxRecDepth 100000 in
set_option maxHeartbeats 8000000 in
theorem routerOwn_walk (R : Ro) (a : RA) (A : Option Addr) (n cc : Nat) (ps : List PV) (s : Int) (key : ByteArray) (w : World) (hT : Tabs w) (h : RR w a R) (hp : SL (fun _ => True) w A n cc ps) :
    Calls Tryz.prog 5 #[rval a R, .slice A n cc, .int .i64 s, .string key] w fun e w' => e = .returned (.bool true) ∧ Below w.heap.size w w' := by
  have HT := Lib.hid hT
  have H := Lib.hid h
  have HPS := Lib.hid hp
  have HNL : Hid (n = ps.length) := hp.sr.ln
  have HFI := Lib.hid fun (wr : World) (hb : Below w.heap.size w wr) => fits_any R a ps A n cc wr (h.step hb) (hp.step hb)
  obtain ⟨KA, kn, kc, CA, cn, c1⟩ := a
  have B0 : Hid (Blk (w.alloc (Obj.cells (rarr ⟨KA, kn, kc, CA, cn, c1⟩ R) 45)) w.heap.size 45 (rarr ⟨KA, kn, kc, CA, cn, c1⟩ R)) := Blk.new_at rfl
  have BE := Lib.hid ((Below.refl w.heap.size w).alloc (Nat.le_refl _) (Obj.cells (rarr ⟨KA, kn, kc, CA, cn, c1⟩ R) 45))
  clear hT h hp
  go_enter Tryz.func5, Tryz.ntmps5
  go_upto_region 1 with fail
  change Code.wp _ _ _ _ (w.alloc (Obj.cells (rarr ⟨KA, kn, kc, CA, cn, c1⟩ R) 45))
  generalize w.alloc (Obj.cells (rarr ⟨KA, kn, kc, CA, cn, c1⟩ R) 45) = wa at *
  obtain ⟨q0, q1, q2, q3, q4, q5, qz⟩ := blk_ro B0.out
  simp only at q1 q5
  cases hf : fitsB R (ps.map Prod.snd)
  · rw [hf] at HFI
    clear hf
    go_wp2_with fail
    refine (HFI.out _ BE.out).mono ?_
    rintro e w1 ⟨rfl, hb⟩
    replace BE := Lib.hid (BE.out.step' hb)
    clear hb HFI q0 q1 q2 q3 q4 q5 qz
    go_wp2_with fail
    refine (awake50_any _ (HT.out.step BE.out)).mono ?_
    rintro e w2 ⟨rfl, hb⟩
    have CE := Lib.hid (BE.out.step' hb)
    clear hb
    go_wp2_with fail
    go_ret
    exact ⟨rfl, CE.out⟩
  rw [hf] at HFI
  obtain ⟨hn40, hvr, hdoc⟩ := fits_all hf
  have HVR := Lib.hid hvr
  have hn : n ≤ 40 := by rw [List.length_map] at hn40; have := HNL.out; omega
  have h8 : R.ks.length ≤ 8 := (by have := (keyE_parts hvr.ke).1; omega)
  have hnz : (n : Int) ≤ 40 := by omega
  have H8 := Lib.hid h8
  have HN40 := Lib.hid hn
  clear hf hn40 hvr hdoc h8 hn
  go_wp2_with fail
  refine (HFI.out _ BE.out).mono ?_
  rintro e w1 ⟨rfl, hb⟩
  replace B0 := Lib.hid (B0.out.step hb)
  replace BE := Lib.hid (BE.out.step' hb)
  clear hb HFI q0 q1 q2 q3 q4 q5 qz
  go_wp2_with fail
  go_loopw [21] (fun v21 wr => ∃ i : Nat, i ≤ n ∧ v21 = .int .i64 i ∧ Below w1.heap.size w1 wr) (fun v21 _ => n - (intOf v21).toNat)
  case atStart => exact ⟨0, Nat.zero_le _, rfl, Below.refl _ _⟩
  case round =>
    obtain ⟨i, hi, rfl, hbel⟩ := hrel
    have HB := Lib.hid hbel
    have RB := Lib.hid (B0.out.step hbel)
    have WE := Lib.hid (BE.out.step' hbel)
    obtain ⟨q0, q1, q2, q3, q4, q5, qz⟩ := blk_ro RB.out
    simp only at q1 q5
    clear hbel
    by_cases hlt : i < n
    · obtain ⟨p, hp⟩ : ∃ p, ps[i]? = some p := ⟨_, List.getElem?_eq_getElem (by have := HNL.out; omega)⟩
      obtain ⟨b, off, hA, _, hat, hrv⟩ := HPS.out.vat hp
      subst hA
      have HAT := Lib.hid hat
      have HRV := Lib.hid hrv
      obtain ⟨y0, y1, y2, y3, y4⟩ := hat.keep (WE.out.block b hat.lt)
      have g0 : ∀ kk : BW wr, kk.val.cell? ⟨w.heap.size, 0, none⟩ = some (.string R.sp) := fun kk => kk.cell q0
      have g1 : ∀ kk : BW wr, kk.val.cell? ⟨w.heap.size, 1, none⟩ = some (.slice KA kn kc) := fun kk => kk.cell q1
      have g2 : ∀ kk : BW wr, kk.val.cell? ⟨w.heap.size, 2, none⟩ = some (.bool R.ha) := fun kk => kk.cell q2
      have g3 : ∀ kk : BW wr, kk.val.cell? ⟨w.heap.size, 3, none⟩ = some (.int .i64 R.ep) := fun kk => kk.cell q3
      have g4 : ∀ kk : BW wr, kk.val.cell? ⟨w.heap.size, 4, none⟩ = some (.int .i64 R.ver) := fun kk => kk.cell q4
      have g5 : ∀ kk : BW wr, kk.val.cell? ⟨w.heap.size, 5, none⟩ = some (.slice CA cn c1) := fun kk => kk.cell q5
      have Y0 : ∀ kk : BW wr, kk.val.cell? ⟨b, off + i * 5, none⟩ = some (.int .i64 p.1.k) := fun kk => kk.cell y0
      have Y1 : ∀ kk : BW wr, kk.val.cell? ⟨b, off + i * 5 + 1, none⟩ = some (.int .i64 p.1.n) := fun kk => kk.cell y1
      have Y2 : ∀ kk : BW wr, kk.val.cell? ⟨b, off + i * 5 + 2, none⟩ = some (.string p.1.t) := fun kk => kk.cell y2
      have Y3 : ∀ kk : BW wr, kk.val.cell? ⟨b, off + i * 5 + 3, none⟩ = some (.slice p.1.LA p.1.ln p.1.lc) := fun kk => kk.cell y3
      have Y4 : ∀ kk : BW wr, kk.val.cell? ⟨b, off + i * 5 + 4, none⟩ = some (.slice p.1.DA p.1.dn p.1.dc) := fun kk => kk.cell y4
      obtain ⟨⟨T1, T2⟩, hR⟩ : ∃ K, rouR R p.2 = K := ⟨_, rfl⟩
      have hR2 : rrouR R p.2 = (T1, T2) := by rw [← HVR.out.route, hR]
      have K1 : Hid (∀ kk : BW wr, Calls Tryz.prog 22 #[.agg #[.string R.sp, .slice KA kn kc, .bool R.ha, .int .i64 R.ep, .int .i64 R.ver, .slice CA cn c1], p.1.val] kk.val fun e w'' => e = .returned (.tuple #[.int .i64 T1, .int .i64 T2]) ∧ ∃ kk : BW wr, w'' = kk.val) := fun kk =>
        Calls.bw (by have := route_any R ⟨KA, kn, kc, CA, cn, c1⟩ p.2 p.1 kk.val ((HT.out.step WE.out).step kk.below) ((H.out.step WE.out).step kk.below) ((HRV.out.step WE.out).step kk.below) H8.out; rw [hR] at this; exact this)
      have K2 : Hid (∀ wr : World, Below w.heap.size w wr → ∀ kk : BW wr, Calls Tryz.prog 23 #[.agg #[.string R.sp, .slice KA kn kc, .bool R.ha, .int .i64 R.ep, .int .i64 R.ver, .slice CA cn c1], p.1.val] kk.val fun e w'' => e = .returned (.tuple #[.int .i64 T1, .int .i64 T2]) ∧ ∃ kk : BW wr, w'' = kk.val) := fun wr hw kk =>
        Calls.bw (by have := rroute_any R ⟨KA, kn, kc, CA, cn, c1⟩ p.2 p.1 kk.val ((H.out.step hw).step kk.below) ((HRV.out.step hw).step kk.below) H8.out; rw [hR2] at this; exact this)
      have i0' : (0 : Int) ≤ (i : Int) := by omega
      have i1' : (i : Int) < (n : Int) := by omega
      have t1 : (T1 != T1) = false := by simp
      have t2 : (T2 != T2) = false := by simp
      clear hp hat hrv hR hR2 y0 y1 y2 y3 y4 q0 q1 q2 q3 q4 q5 qz
      go_upto_region 6 with fail
      refine wp_region_bw (by kernel_rfl) (by kernel_rfl) ?_
      repeat (go_big_quiet_step (with_reducible exact K1.out _))
      refine wpQuiet_nil ?_
      rintro _ ⟨kw, rfl⟩
      replace HB := Lib.hid (HB.out.step' kw.below)
      replace RB := Lib.hid (RB.out.step kw.below)
      replace WE := Lib.hid (WE.out.step' kw.below)
      clear g0 g1 g2 g3 g4 g5 Y0 Y1 Y2 Y3 Y4 K1
      generalize kw.val = w2 at *
      have K3 := Lib.hid (K2.out w2 WE.out)
      clear K2
      obtain ⟨q0, q1, q2, q3, q4, q5, qz⟩ := blk_ro RB.out
      simp only at q1 q5
      obtain ⟨y0, y1, y2, y3, y4⟩ := HAT.out.keep (WE.out.block b HAT.out.lt)
      have g0 : ∀ kk : BW w2, kk.val.cell? ⟨w.heap.size, 0, none⟩ = some (.string R.sp) := fun kk => kk.cell q0
      have g1 : ∀ kk : BW w2, kk.val.cell? ⟨w.heap.size, 1, none⟩ = some (.slice KA kn kc) := fun kk => kk.cell q1
      have g2 : ∀ kk : BW w2, kk.val.cell? ⟨w.heap.size, 2, none⟩ = some (.bool R.ha) := fun kk => kk.cell q2
      have g3 : ∀ kk : BW w2, kk.val.cell? ⟨w.heap.size, 3, none⟩ = some (.int .i64 R.ep) := fun kk => kk.cell q3
      have g4 : ∀ kk : BW w2, kk.val.cell? ⟨w.heap.size, 4, none⟩ = some (.int .i64 R.ver) := fun kk => kk.cell q4
      have g5 : ∀ kk : BW w2, kk.val.cell? ⟨w.heap.size, 5, none⟩ = some (.slice CA cn c1) := fun kk => kk.cell q5
      have Y0 : ∀ kk : BW w2, kk.val.cell? ⟨b, off + i * 5, none⟩ = some (.int .i64 p.1.k) := fun kk => kk.cell y0
      have Y1 : ∀ kk : BW w2, kk.val.cell? ⟨b, off + i * 5 + 1, none⟩ = some (.int .i64 p.1.n) := fun kk => kk.cell y1
      have Y2 : ∀ kk : BW w2, kk.val.cell? ⟨b, off + i * 5 + 2, none⟩ = some (.string p.1.t) := fun kk => kk.cell y2
      have Y3 : ∀ kk : BW w2, kk.val.cell? ⟨b, off + i * 5 + 3, none⟩ = some (.slice p.1.LA p.1.ln p.1.lc) := fun kk => kk.cell y3
      have Y4 : ∀ kk : BW w2, kk.val.cell? ⟨b, off + i * 5 + 4, none⟩ = some (.slice p.1.DA p.1.dn p.1.dc) := fun kk => kk.cell y4
      clear y0 y1 y2 y3 y4 q0 q1 q2 q3 q4 q5 qz
      go_upto_region 7 with fail
      refine wp_region_bw (by kernel_rfl) (by kernel_rfl) ?_
      repeat (go_big_quiet_step (with_reducible exact K3.out _))
      refine wpQuiet_nil ?_
      rintro _ ⟨kw, rfl⟩
      replace HB := Lib.hid (HB.out.step' kw.below)
      clear g0 g1 g2 g3 g4 g5 Y0 Y1 Y2 Y3 Y4 K3
      generalize kw.val = w3 at *
      go_wp2_with fail
      go_roundw
      case rel => exact ⟨i + 1, hlt, by go_num, HB.out⟩
      case measure => simp [intOf]; omega
    · obtain rfl : i = n := by omega
      go_upto_region 11 with fail
      have B := Lib.hid ((Below.refl wr.heap.size wr).drewN 1)
      have KSS : Hid (∀ w', Below wr.heap.size wr w' → w'.cell? ⟨w.heap.size, 0, none⟩ = some (.string R.sp) ∧ w'.cell? ⟨w.heap.size, 1, none⟩ = some (.slice KA kn kc) ∧ w'.cell? ⟨w.heap.size, 2, none⟩ = some (.bool R.ha) ∧ w'.cell? ⟨w.heap.size, 3, none⟩ = some (.int .i64 R.ep) ∧ w'.cell? ⟨w.heap.size, 4, none⟩ = some (.int .i64 R.ver) ∧ w'.cell? ⟨w.heap.size, 5, none⟩ = some (.slice CA cn c1)) := Lib.hid fun w' hb => ⟨(hb.cell (p := ⟨w.heap.size, 0, none⟩) RB.out.lt).trans q0, (hb.cell (p := ⟨w.heap.size, 1, none⟩) RB.out.lt).trans q1, (hb.cell (p := ⟨w.heap.size, 2, none⟩) RB.out.lt).trans q2, (hb.cell (p := ⟨w.heap.size, 3, none⟩) RB.out.lt).trans q3, (hb.cell (p := ⟨w.heap.size, 4, none⟩) RB.out.lt).trans q4, (hb.cell (p := ⟨w.heap.size, 5, none⟩) RB.out.lt).trans q5⟩
      obtain ⟨o, ho⟩ : ∃ o, ownsB R s key = o := ⟨_, rfl⟩
      have ho2 : rownsB R s key = o := by rw [← HVR.out.owns, ho]
      have oo : (o == o) = true := by simp
      have O1 := Lib.hid fun (wq : World) (hb : Below wr.heap.size wr wq) => owns_any R ⟨KA, kn, kc, CA, cn, c1⟩ s key wq ((H.out.step WE.out).step hb)
      have O2 := Lib.hid fun (wq : World) (hb : Below wr.heap.size wr wq) => rowns_any R ⟨KA, kn, kc, CA, cn, c1⟩ s key wq ((H.out.step WE.out).step hb)
      rw [ho] at O1
      rw [ho2] at O2
      have HEQ : Hid (rownL R s (ps.map Prod.snd) = ownL R s (ps.map Prod.snd)) := HVR.out.ownL s _
      clear ho ho2 q0 q1 q2 q3 q4 q5 qz
      go_region_held3 (fun w' => w'.cell? ⟨w.heap.size, 0, none⟩ = some (.string R.sp) ∧ w'.cell? ⟨w.heap.size, 1, none⟩ = some (.slice KA kn kc) ∧ w'.cell? ⟨w.heap.size, 2, none⟩ = some (.bool R.ha) ∧ w'.cell? ⟨w.heap.size, 3, none⟩ = some (.int .i64 R.ep) ∧ w'.cell? ⟨w.heap.size, 4, none⟩ = some (.int .i64 R.ver) ∧ w'.cell? ⟨w.heap.size, 5, none⟩ = some (.slice CA cn c1))
        (first | exact KSS.out _ B.out | ((try dsimp only); assumption) | go_keep)
        (first
          | (go_at_call 24; refine (O1.out _ B.out).mono ?_; rintro e3 v1 ⟨rfl, hb⟩; replace B := Lib.hid (B.out.step' hb); clear hb)
          | (go_at_call 25; refine (O2.out _ B.out).mono ?_; rintro e3 v2 ⟨rfl, hb⟩; replace B := Lib.hid (B.out.step' hb); clear hb)
          | (go_at_call 27; refine (own_any R ⟨KA, kn, kc, CA, cn, c1⟩ s ps A i cc _ (HT.out.step (WE.out.step' B.out)) (H.out.step (WE.out.step' B.out)) (HPS.out.step (WE.out.step' B.out)) H8.out (Nat.le_trans HN40.out (by decide))).mono ?_; rintro e3 v3 ⟨A1, m1, d1, qs1, rfl, hq1, hs1, hb⟩; replace B := Lib.hid (B.out.step' hb); have S1 := Lib.hid hs1; have E1 := Lib.hid hq1; clear hb hs1 hq1)
          | (go_at_call 28; refine (rown_any R ⟨KA, kn, kc, CA, cn, c1⟩ s ps A i cc _ (H.out.step (WE.out.step' B.out)) (HPS.out.step (WE.out.step' B.out)) H8.out (Nat.le_trans HN40.out (by decide))).mono ?_; rintro e3 v4 ⟨A2, m2, d2, qs2, rfl, hq2, hs2, hb⟩; replace B := Lib.hid (B.out.step' hb); replace S1 := Lib.hid (S1.out.step hb); have S2 := Lib.hid hs2; have E2 := Lib.hid (hq2.trans HEQ.out); clear hb hs2 hq2)
          | (go_at_call 26; refine (samelist03_eq qs1 qs2 A1 A2 m1 d1 m2 d2 _ S1.out S2.out (E2.out.trans E1.out.symm)).mono ?_; rintro e3 v5 ⟨rfl, hb⟩; replace B := Lib.hid (B.out.step' hb); clear hb)
          | (go_at_call 21; refine (awake50_any _ (HT.out.step (WE.out.step' B.out))).mono ?_; rintro e3 v6 ⟨rfl, hb⟩; replace B := Lib.hid (B.out.step' hb); clear hb))
      all_goals
        go_wp2_with fail
        go_ret
        exact ⟨rfl, WE.out.step' B.out⟩

end Go.Proofs.YtblepmmibhphhaaGreatDoor


/- A list of values that came in, opened. -/
namespace Go.Proofs.YtblepmmibhphhaaGreatDoor
open Go.ChangeShapes Go.WideShapes Go.ChangeAt Go.RowKit Go.Joins Go.Deep

section
variable {H : Type} {enc : TypeId × Value → H} {W : World} {base : Nat} {spare : Nat → Bool} {held : Bool}
set_option maxRecDepth 100000 in
theorem open_values {r : Reach} {b0 : Nat} {v : Value} {d : DataW H} {p : List MemPlace} (hv : Value.okWide Tryz.prog W r b0 25 v) (h : DataW.Trod enc Tryz.prog W base spare held 25 v d p) (hw : Light 25 d) :
    ∃ (A : Option Addr) (n c : Nat) (ps : List PV), v = .slice A n c ∧ SL (fun _ => True) W A n c ps := by
  obtain ⟨a, len, cap, rfl⟩ := okWide_slice Tryz.underlying25 hv
  obtain ⟨fuel, hf⟩ := h
  obtain ⟨LA, ln, lc, l, e, hl1, hl2, hl3, hl4⟩ := read_list fuel (fun n' _ cs y hy hl => read_value n' cs y hy hl) hf hw
  cases e
  have hr : RW W ⟨0, 0, ByteArray.empty, a, len, cap, none, 0, 0⟩ (.mk 0 0 ByteArray.empty l []) := by
    refine RVs.shut ⟨rfl, rfl, rfl, by show (0 : Nat) ≤ reach; decide, hl1, hl2, hl3, fun hp => ?_, rfl, Nat.le_refl _, by show 0 * 96 ≤ reach; decide, fun h => absurd h (by show ¬ 0 < 0; omega)⟩
    obtain ⟨b, off, e, h⟩ := hl4 hp
    exact ⟨b, off, e, Ft.top, h⟩
  obtain ⟨ps, _, hs⟩ := hr.sl
  exact ⟨a, len, cap, ps, rfl, hs⟩
end
end Go.Proofs.YtblepmmibhphhaaGreatDoor


/- The law RouterOwn returns true for every input, and each argument reads behind the call as it read before; the tables of unicode/utf8 that it reads are tied to the program's text. Conditions: none beyond the card. The frame is printed by gen_card.py. -/
namespace Go.Proofs.YtblepmmibhphhaaGreatDoor.routerOwn
open Go Go.Shelf Go.ChangeShapes Go.WideShapes Go.ChangeAt Go.RowKit Go.Lib
set_option linter.unusedVariables false

theorem own : ownKnob Tryz.prog.godebug = none := by kernel_rfl
theorem laidOut : laidOutB Tryz.prog = true := by kernel_rfl
theorem accept_eq : Rows.laid_unicode_utf8_acceptRanges = Lib.acceptData := by kernel_rfl
theorem first_eq : Rows.laid_unicode_utf8_first = Lib.firstData := Go.Pinned.utf8First_eq
noncomputable def laidWorld (os : Os) : World :=
  let w0 := World.holding Tryz.prog os ⟨#[], #[], []⟩
  let put (h : Array Obj) (g : Nat) (cs : Array Value) : Array Obj := h.modify g fun
    | .cells _ t frozen => .cells cs t frozen
    | o => o
  let h1 := put w0.heap 0 (Lib.firstTab.map fun z => Value.int .u8 z).toArray
  let h2 := put h1 1 ((List.range 16).flatMap fun i => [Value.int .u8 (Lib.accLo i), Value.int .u8 (Lib.accHi i)]).toArray
  { w0 with heap := h2 }
theorem laid_met (os : Os) (args : Array Value) : laidMet Tryz.prog Rows.routerOwnRow.laid ((laidWorld os).forCall (fun _ _ => 0) ⟨#[], args, []⟩).memory :=
  (LaidIn.of_run (l := [("unicode/utf8.acceptRanges", Rows.laid_unicode_utf8_acceptRanges), ("unicode/utf8.first", Rows.laid_unicode_utf8_first)]) [1, 0] 8 (by kernel_rfl) (by kernel_rfl) (by kernel_rfl) (by kernel_rfl)).met

theorem witness_row (os : Os) {H : Type} (enc : TypeId × Value → H) :
    (OpenSpec.ofChange Rows.routerOwnSpec).preRow enc Tryz.prog Tryz.f5 Rows.routerOwnRow.domain false Rows.routerOwnRow.laid ((laidWorld os).forCall (fun _ _ => 0) ⟨#[], #[.agg #[.string ⟨#[]⟩, .slice none 0 0, .bool false, .int .i64 0, .int .i64 0, .slice none 0 0], .slice none 0 0, .int .i64 0, .string ⟨#[]⟩], []⟩).memory #[.agg #[.string ⟨#[]⟩, .slice none 0 0, .bool false, .int .i64 0, .int .i64 0, .slice none 0 0], .slice none 0 0, .int .i64 0, .string ⟨#[]⟩] := by
  have hw : (DataW.whole enc Tryz.prog ((laidWorld os).forCall (fun _ _ => 0) ⟨#[], #[.agg #[.string ⟨#[]⟩, .slice none 0 0, .bool false, .int .i64 0, .int .i64 0, .slice none 0 0], .slice none 0 0, .int .i64 0, .string ⟨#[]⟩], []⟩).memory Tryz.f5.params.toList (OpenSpec.ofChange Rows.routerOwnSpec).vars false (#[.agg #[.string ⟨#[]⟩, .slice none 0 0, .bool false, .int .i64 0, .int .i64 0, .slice none 0 0], .slice none 0 0, .int .i64 0, .string ⟨#[]⟩] : Array Value).toList 8).map (fun x => (x.1, x.2.1)) =
      some ([.agg [.lit (.string []), .agg [.nil, .lit (.bool false)], .lit (.int .i64 0), .lit (.int .i64 0), .nil], .nil, .lit (.int .i64 0), .lit (.string [])], []) := by kernel_rfl
  obtain ⟨⟨x1, x2, x3⟩, hx, hx1⟩ := Option.map_eq_some_iff.1 hw
  simp only [Prod.mk.injEq] at hx1
  obtain ⟨rfl, rfl⟩ := hx1
  exact OpenSpec.preRow_of_cond 8 hx (by kernel_rfl) (fun k hk => by cases hk) (by kernel_rfl) (laid_met os _)

set_option maxRecDepth 100000 in
set_option maxHeartbeats 2000000 in
theorem lifted (os : Os) (started : os.Started) (H : Type) (enc : TypeId × Value → H) (F0 : Stop.Interp) :
    ReturnsInHanded {} Tryz.checked os 5 .any ((OpenSpec.ofChange Rows.routerOwnSpec).preRow enc Tryz.prog Tryz.f5 Rows.routerOwnRow.domain false Rows.routerOwnRow.laid) (((OpenSpec.ofChange Rows.routerOwnSpec).at F0).post enc Tryz.prog Tryz.f5 false true false false) := by
  refine returnsInHanded_of_row (C := Tryz.checked) (s := OpenSpec.ofChange Rows.routerOwnSpec) own started (by kernel_rfl) Tryz.func5
    (witness_row_atRef (enc := enc) (C := Tryz.checked) false (laidWorld os) #[.agg #[.string ⟨#[]⟩, .slice none 0 0, .bool false, .int .i64 0, .int .i64 0, .slice none 0 0], .slice none 0 0, .int .i64 0, .string ⟨#[]⟩] rfl (by kernel_rfl) (by kernel_rfl) (by kernel_rfl) (witness_row os enc)) ?_
  intro W base args ds gs before hval0 hW hq1 hq2 hwt hL hq5 hq6
  have hval : ∀ (j : Nat) t v, Tryz.f5.params[j]? = some t → args[j]? = some v → Value.okWide Tryz.prog W .any base t v := hval0
  have hW' := hW
  obtain ⟨p, q, hA0, hV, rfl, hfz, hnd⟩ := hW
  have hA : DataW.TrodAll enc Tryz.prog W 0 (fun _ => true) true Tryz.f5.params.toList args.toList ds p := hA0
  rw [Tryz.params5] at hA hval hwt
  obtain ⟨v0, vs0, d0, ds0, p0, q0, hargs, rfl, rfl, h0, r0⟩ := trodAll_cons hA
  obtain ⟨v1, vs1, d1, ds1, p1, q1, rfl, rfl, rfl, h1, r1⟩ := trodAll_cons r0
  obtain ⟨v2, vs2, d2, ds2, p2, q2, rfl, rfl, rfl, h2, r2⟩ := trodAll_cons r1
  obtain ⟨v3, vs3, d3, ds3, p3, q3, rfl, rfl, rfl, h3, r3⟩ := trodAll_cons r2
  obtain ⟨rfl, rfl, rfl⟩ := trodAll_nil r3
  obtain rfl : args = #[v0, v1, v2, v3] := by cases args; simp_all
  obtain ⟨rfl, rfl⟩ := trodVars_none hV
  obtain ⟨hlt0, hwt0⟩ := light_each hwt
  obtain ⟨hlt1, hwt1⟩ := light_each hwt0
  obtain ⟨hlt2, hwt2⟩ := light_each hwt1
  obtain ⟨hlt3, hwt3⟩ := light_each hwt2
  have trd0 := h0
  have lt0 : ∀ x ∈ p0, x.block < W.heap.size := by obtain ⟨m, hm⟩ := trd0; exact DataW.trod_lt m _ _ _ hm
  obtain ⟨ra0, R0, rfl, o0⟩ := open_routes (hval 0 45 v0 rfl rfl) h0 hlt0
  have trd1 := h1
  have lt1 : ∀ x ∈ p1, x.block < W.heap.size := by obtain ⟨m, hm⟩ := trd1; exact DataW.trod_lt m _ _ _ hm
  obtain ⟨A1, n1, k1, ps1, rfl, o1⟩ := open_values (hval 1 25 v1 rfl rfl) h1 hlt1
  have trd2 := h2
  have lt2 : ∀ x ∈ p2, x.block < W.heap.size := by obtain ⟨m, hm⟩ := trd2; exact DataW.trod_lt m _ _ _ hm
  obtain ⟨i2, rfl, w2⟩ := open_i64 (hval 2 3 v2 rfl rfl) h2
  have trd3 := h3
  have lt3 : ∀ x ∈ p3, x.block < W.heap.size := by obtain ⟨m, hm⟩ := trd3; exact DataW.trod_lt m _ _ _ hm
  obtain ⟨s3, rfl, w3⟩ := open_str (hval 3 9 v3 rfl rfl) h3 hlt3
  clear hA0 hval0
  have htab : Tabs W := by
    have r1 := Lib.laidMet.reads hL (.tail _ (.head _))
    have r2 := Lib.laidMet.reads hL (.head _)
    rw [first_eq] at r1
    rw [accept_eq] at r2
    exact utf8Tabs_of_readsT (U8Types.of196 laysValid) ⟨by kernel_rfl, by kernel_rfl, by kernel_rfl, by kernel_rfl, by kernel_rfl, by kernel_rfl, by kernel_rfl⟩ r1 r2
  refine (routerOwn_walk R0 ra0 A1 n1 k1 ps1 i2 s3 W htab o0 o1).mono fun e W' ⟨he, bel⟩ => ?_
  subst he
  exact ⟨_, rfl, _, _, _, [], _, [], hW', trodAll_mk1 (shut_bool Tryz.underlying4 _), (trodAll_cons_mk (Below.trod laidOut (by kernel_rfl) (of_decide_eq_true (by kernel_rfl)) trd0 bel lt0) (trodAll_cons_mk (Below.trod laidOut (by kernel_rfl) (of_decide_eq_true (by kernel_rfl)) trd1 bel lt1) (trodAll_cons_mk (Below.trod laidOut (by kernel_rfl) (of_decide_eq_true (by kernel_rfl)) trd2 bel lt2) (trodAll_cons_mk (Below.trod laidOut (by kernel_rfl) (of_decide_eq_true (by kernel_rfl)) trd3 bel lt3) trodAll_mk0)))), rfl, bel.frame _, fun h => by cases h⟩

theorem over : Rows.RouterOwnSaid :=
  OpenClaim.holds_of_cond 5 Tryz.f5 rfl rfl rfl rfl rfl rfl rfl ⟨rfl, rfl, rfl, rfl, rfl⟩ rfl rfl rfl rfl rfl (by kernel_rfl) Tryz.func5 (by kernel_rfl)
    (of_decide_eq_true (by kernel_rfl)) (by unfold Func.isWrapper; first | (rw [if_pos (by decide +kernel)]; kernel_rfl) | (rw [if_neg (by decide +kernel)]; exact ⟨rfl, rfl⟩))
    (fun os started H enc _ F0 => by rw [OpenClaim.pre_eq_preRow]; exact lifted os started H enc F0)

theorem proved : Rows.RouterOwnCardSaid :=
  Claim7.holds_tied_plain_at .later [] [.data, .pinned] true (true, "d760985c22148e55cd1a8abc7402baa4a725f89cf5395fb4c61866adb12a1757") false
    over (fun _ h => by cases h) (by kernel_rfl) (fun _ h => by cases h) routerOwn_row_tie rfl ⟨rfl, rfl⟩ (by kernel_rfl) rfl
    (fun f fn hf hfn => by
      obtain rfl : f = 5 := Option.some.inj ((show Tryz.prog.funcNamed "docstore/docstorelaw50.RouterOwn" = some 5 by kernel_rfl).symm.trans hf) |>.symm
      obtain rfl : fn = Tryz.f5 := (Option.some.inj (Tryz.func5.symm.trans hfn)).symm
      exact ⟨by kernel_rfl, fun j t ht => by
        rw [Tryz.params5] at ht
        have h3 : t = 45 ∨ t = 25 ∨ t = 3 ∨ t = 9 := by
          rcases j with _ | j
          · exact .inl (by simpa using ht.symm)
          rcases j with _ | j
          · exact .inr (.inl (by simpa using ht.symm))
          rcases j with _ | j
          · exact .inr (.inr (.inl (by simpa using ht.symm)))
          rcases j with _ | j
          · exact .inr (.inr (.inr (by simpa using ht.symm)))
          · simp at ht
        rcases h3 with rfl | rfl | rfl | rfl
        · exact (show Tryz.prog.wantsStandIn 45 = false by kernel_rfl)
        · exact (show Tryz.prog.wantsStandIn 25 = false by kernel_rfl)
        · exact (show Tryz.prog.wantsStandIn 3 = false by kernel_rfl)
        · exact (show Tryz.prog.wantsStandIn 9 = false by kernel_rfl)⟩)
    (by kernel_rfl)
#print axioms proved
end Go.Proofs.YtblepmmibhphhaaGreatDoor.routerOwn

