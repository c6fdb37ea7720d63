/- Parts of the proof, joined: EncKey, EncKey2, CrcPure, Crc, ShCode, ValCmpPure, Kit7, SortOrd, ValOrder, IvPure, IvCut, IvRec. -/
import Derived.Test.YtlmmgjgkmbmgpaaGreatDoorB5
import Derived.Test.YtlmmgjgkmbmgpaaGreatDoorB7
import Derived.Test.YtlmmgjgkmbmgpaaGreatDoorB1
import Derived.Test.YtlmmgjgkmbmgpaaGreatDoorB2
import Derived.Test.YtlmmgjgkmbmgpaaGreatDoorB4
import Derived.Lib.Bytealg
import Derived.Lib.Small
/- keyenc.allowed, the reference's missing, and both Encodes where all is ascending. -/
namespace Go.Proofs.YtlmmgjgkmbmgpaaGreatDoor
open Go.RowKit

theorem size0 (t : ByteArray) : (t.toList == []) = decide (t.size = 0) := by
  rw [ByteArray.toList_eq, ← dsize]
  cases t.data.toList with
  | nil => rfl
  | cons a r => simp

theorem beq0 (n : Nat) : ((n : Int) == 0) = decide (n = 0) := by
  by_cases h : n = 0
  · rw [h]; rfl
  · rw [decide_eq_false h]
    exact beq_eq_false_iff_ne.2 (by omega)

set_option maxRecDepth 100000 in
set_option maxHeartbeats 1000000 in
theorem allowed_any (x : Val) (c : VC) (w : World) (hT : Tabs w) (h : RW w c x) :
    Calls Tryz.prog 144 #[c.val] w fun e w' => e = .returned (.bool (allowB x)) ∧ Below w.heap.size w w' := by
  have ho := h.open
  have hvk : x.k = 0 → validV x = false := fun e => by
    cases hv : validV x
    · rfl
    · simp only [validV, Bool.and_eq_true] at hv
      have := ((SoundV_iff nameB x).1 (soundB_iff.1 hv.2)).1.kind
      omega
  have B0 : Hid (Blk (w.alloc (Obj.cells c.arr 46)) w.heap.size 46 c.arr) := Blk.new_at rfl
  have BE : Hid (Below w.heap.size w (w.alloc (Obj.cells c.arr 46))) := (Below.refl _ _).alloc (Nat.le_refl _) _
  have HV := Lib.hid fun (w1 : World) (hb : Below w.heap.size w w1) => valid_any x c w1 (hT.step hb) (h.step hb)
  have hk := ho.k
  have hn := ho.n
  have ht := ho.t
  have hl := ho.ln
  have hd := ho.dn
  have HK := Lib.hid (And.intro hk (And.intro hn (And.intro ht (And.intro hl (And.intro hd hvk)))))
  clear hT h ho hk hn ht hl hd hvk
  go_enter Tryz.func144, Tryz.ntmps144
  go_upto_region 1 with fail
  change (Code.region 1 _ _).wp _ _ _ (w.alloc (Obj.cells c.arr 46))
  generalize w.alloc (Obj.cells c.arr 46) = wa at *
  obtain ⟨b0, b1, b2, b3, b4⟩ := VAt.of_blk B0.out
  simp only [Nat.zero_add] at b0 b1 b2 b3 b4
  by_cases h0 : c.k = 0
  · obtain ⟨hk, hn, ht, hl, hd, hvk⟩ := HK.out
    have hva := hvk (by rw [← hk]; exact h0)
    have HA : Hid (allowB x = (decide (c.n = 0) && (decide (c.t.size = 0) && (decide (c.ln = 0) && decide (c.dn = 0))))) := by
      unfold Hid allowB missB
      rw [hva, ← hk, ← hn, ← ht, ← hl, ← hd, decide_eq_true h0]
      simp
    have hsz := size0 c.t
    have P0 : ∀ q : BW wa, q.val.cell? ⟨w.heap.size, 0, none⟩ = some (.int .i64 c.k) := fun q => q.cell b0
    have P1 : ∀ q : BW wa, q.val.cell? ⟨w.heap.size, 1, none⟩ = some (.int .i64 c.n) := fun q => q.cell b1
    have P2 : ∀ q : BW wa, q.val.cell? ⟨w.heap.size, 2, none⟩ = some (.string c.t) := fun q => q.cell b2
    have P3 : ∀ q : BW wa, q.val.cell? ⟨w.heap.size, 3, none⟩ = some (.slice c.LA c.ln c.lc) := fun q => q.cell b3
    have P4 : ∀ q : BW wa, q.val.cell? ⟨w.heap.size, 4, none⟩ = some (.slice c.DA c.dn c.dc) := fun q => q.cell b4
    clear hk hn ht hl hd hva hvk
    go_upto_region 2 with fail
    by_cases h1 : c.n = 0
    · by_cases h2 : c.t.size = 0
      · have h2b : (c.t.toList == []) = true := by rw [hsz, decide_eq_true h2]
        by_cases h3 : c.ln = 0
        · go_wp2_with fail
          go_ret
          exact ⟨by rw [HA.out]; simp [h1, h2, h3, beq0], BE.out⟩
        · go_wp2_with fail
          go_ret
          exact ⟨by rw [HA.out]; simp [h1, h2, h3], BE.out⟩
      · have h2b : (c.t.toList == []) = false := by rw [hsz, decide_eq_false h2]
        go_wp2_with fail
        go_ret
        exact ⟨by rw [HA.out]; simp [h1, h2], BE.out⟩
    · go_wp2_with fail
      go_ret
      exact ⟨by rw [HA.out]; simp [h1], BE.out⟩
  · obtain ⟨hk, hn, ht, hl, hd, hvk⟩ := HK.out
    have h0b : (c.k == 0) = false := by simpa using h0
    have HA : Hid (allowB x = validV x) := by
      unfold Hid allowB missB
      rw [← hk, decide_eq_false h0]
      rfl
    clear hk hn ht hl hd hvk
    go_wp2_with fail
    refine (HV.out wa BE.out).mono ?_
    rintro e w1 ⟨rfl, hb⟩
    have CE := Lib.hid (BE.out.step' hb)
    clear b0 b1 b2 b3 b4 hb HV B0
    go_wp2_with fail
    go_ret
    exact ⟨by rw [HA.out]; rfl, CE.out⟩

set_option maxRecDepth 100000 in
set_option maxHeartbeats 1000000 in
theorem missing_any (x : Val) (c : VC) (w : World) (h : RW w c x) :
    Calls Tryz.prog 126 #[c.val] w fun e w' => e = .returned (.bool (missB x)) ∧ Below w.heap.size w w' := by
  have ho := h.open
  have hk := ho.k
  have hn := ho.n
  have ht := ho.t
  have hl := ho.ln
  have hd := ho.dn
  have HA : Hid (missB x = (decide (c.k = 0) && (decide (c.n = 0) && (decide (c.t.size = 0) && (decide (c.ln = 0) && decide (c.dn = 0)))))) := by
    unfold Hid missB
    rw [← hk, ← hn, ← ht, ← hl, ← hd]
  clear hk hn ht hl hd h ho
  have B0 : Hid (Blk (w.alloc (Obj.cells c.arr 46)) w.heap.size 46 c.arr) := Blk.new_at rfl
  have BE : Hid (Below w.heap.size w (w.alloc (Obj.cells c.arr 46))) := (Below.refl _ _).alloc (Nat.le_refl _) _
  have hsz := size0 c.t
  go_enter Tryz.func126, Tryz.ntmps126
  go_upto_region 1 with fail
  change (Code.region 1 _ _).wp _ _ _ (w.alloc (Obj.cells c.arr 46))
  generalize w.alloc (Obj.cells c.arr 46) = wa at *
  obtain ⟨b0, b1, b2, b3, b4⟩ := VAt.of_blk B0.out
  simp only [Nat.zero_add] at b0 b1 b2 b3 b4
  by_cases h0 : c.k = 0
  · by_cases h1 : c.n = 0
    · by_cases h2 : c.t.size = 0
      · have h2b : (c.t.toList == []) = true := by rw [hsz, decide_eq_true h2]
        by_cases h3 : c.ln = 0
        · go_wp2_with fail
          go_ret
          exact ⟨by rw [HA.out]; simp [h0, h1, h2, h3, beq0], BE.out⟩
        · go_wp2_with fail
          go_ret
          exact ⟨by rw [HA.out]; simp [h0, h1, h2, h3], BE.out⟩
      · have h2b : (c.t.toList == []) = false := by rw [hsz, decide_eq_false h2]
        go_wp2_with fail
        go_ret
        exact ⟨by rw [HA.out]; simp [h0, h1, h2], BE.out⟩
    · go_wp2_with fail
      go_ret
      exact ⟨by rw [HA.out]; simp [h0, h1], BE.out⟩
  · have h0b : (c.k == 0) = false := by simpa using h0
    go_wp2_with fail
    go_ret
    exact ⟨by rw [HA.out]; simp [h0], BE.out⟩

/-- all of a list may be encoded -/
noncomputable def allowsB (l : List Val) : Bool := l.all allowB
/-- what an Encode hands back -/
noncomputable def keyR (l : List Val) : ByteArray × Int := if allowsB l then (strOfNums (encAll l), 0) else (ByteArray.empty, 8)
theorem keyR_yes {l : List Val} (h : allowsB l = true) : keyR l = (strOfNums (encAll l), 0) := if_pos h
theorem keyR_no {l : List Val} {i : Nat} {y : Val} (hy : l[i]? = some y) (h : allowB y = false) : keyR l = (ByteArray.empty, 8) := by
  have : allowsB l = false := by
    unfold allowsB
    rw [List.all_eq_false]
    exact ⟨y, List.mem_of_getElem? hy, by rw [h]; decide⟩
  unfold keyR
  rw [this]
  rfl
theorem allows_snoc {l : List Val} {i : Nat} {y : Val} (hy : l[i]? = some y) (ha : allowsB (l.take i) = true) (h : allowB y = true) : allowsB (l.take (i + 1)) = true := by
  unfold allowsB at *
  rw [take_snoc' hy, List.all_append, ha]
  simp [h]
theorem encAll_len {l : List Val} (h : allowsB l = true) : (encAll l).length ≤ 8500000 * l.length := by
  induction l with
  | nil => simp [encAll]
  | cons a r ih =>
    have e : encAll (a :: r) = encV a ++ encAll r := rfl
    unfold allowsB at h
    rw [List.all_cons, Bool.and_eq_true] at h
    have h1 := (allow_enc h.1).2
    have h2 := ih h.2
    rw [e, List.length_append, List.length_cons]
    omega

end Go.Proofs.YtlmmgjgkmbmgpaaGreatDoor

/- The contract of keyenc.Encode where all is ascending. -/
namespace Go.Proofs.YtlmmgjgkmbmgpaaGreatDoor
open Go.RowKit

def recX (b : Bool) : List Value := [.bool b]
theorem own_str {w : World} {base m : Nat} {v : Value} {xs : List Int} (h : w.ownsRow base 5 1 v m (bytesC xs)) (hm : m = xs.length) : (convert 178 9 v).run Tryz.prog w = .ok (.string (strOfNums xs)) w := by
  rcases h.2 with ⟨rfl, rfl⟩ | ⟨g, cap, cur, rfl, _⟩
  · have : xs = [] := List.eq_nil_of_length_eq_zero hm.symm
    subst this
    exact run_convert_bytes_nil (P := Tryz.prog) w 178 5 Tryz.underlying178 Tryz.underlying5 0 0 9 Tryz.underlying9
  · refine run_convert_bytes_arg (P := Tryz.prog) w 178 5 Tryz.underlying178 Tryz.underlying5 g 0 m cap xs hm.symm (fun i hi => ?_) 9 Tryz.underlying9
    have hx : xs[i]? = some (xs.getD i 0) := by rw [List.getD_eq_getElem?_getD, List.getElem?_eq_getElem (by omega)]; rfl
    have := h.cells (g := g) rfl i (.int .u8 (xs.getD i 0)) (by unfold bytesC; rw [List.getElem?_map, hx]; rfl)
    rwa [addr_add] at this

structure EkI (w : World) (v : Value) (m : Nat) (l : List Int) (wr : World) : Prop where
  own : wr.ownsRow w.heap.size 5 1 v m (bytesC l)
  ln : m = l.length
  bel : Below w.heap.size w wr
theorem EkI.step {w wr w' : World} {v : Value} {m : Nat} {l : List Int} (h : EkI w v m l wr) (hb : Below wr.heap.size wr w') : EkI w v m l w' := ⟨own_step h.own hb, h.ln, h.bel.step' hb⟩
theorem EkI.call {w wr w' : World} {v : Value} {m : Nat} {l l' : List Int} {e : Ending} (h : EkI w v m l wr) (ha : AppOk w.heap.size v l' wr e w') : ∃ v', e = .returned v' ∧ EkI w v' l'.length l' w' := by
  obtain ⟨v', he, ho, hg, hb⟩ := ha
  exact ⟨v', he, ho, rfl, h.bel.grown hg h.bel.size fun g hg' => own_ge h.own g hg'⟩

set_option maxRecDepth 100000 in
set_option maxHeartbeats 2000000 in
theorem encode_any (ps : List PV) (A B : Option Addr) (n c bc : Nat) (w : World) (hT : Tabs w) (h : SL (fun _ => True) w A n c ps) (hd : SR 1 recX w B n bc (List.replicate n false)) (hn : n ≤ 10) :
    Calls Tryz.prog 105 #[.slice A n c, .slice B n bc] w fun e w' => e = .returned (.tuple #[.string (keyR (ps.map Prod.snd)).1, .int .i64 (keyR (ps.map Prod.snd)).2]) ∧ Below w.heap.size w w' := by
  have HT := Lib.hid hT
  have H := Lib.hid h
  have HD := Lib.hid hd
  have HL : Hid (n = ps.length) := h.sr.ln
  clear hT h hd
  have I0 : Hid (EkI w (.slice none 0 0) 0 [] w) := ⟨own_nil _ _ _ _, rfl, Below.refl _ _⟩
  go_enter Tryz.func105, Tryz.ntmps105
  go_upto_region 5 with fail
  go_loopw [6, 7, 8, 9, 10, 18] (fun u6 _ _ _ _ u18 wr => ∃ i m : Nat, i ≤ n ∧ u18 = .int .i64 i ∧ allowsB ((ps.map Prod.snd).take i) = true ∧ EkI w u6 m (encAll ((ps.map Prod.snd).take i)) wr) (fun _ _ _ _ _ u18 _ => n - (intOf u18).toNat)
  case atStart => exact ⟨0, 0, Nat.zero_le _, rfl, rfl, I0.out⟩
  case round =>
    obtain ⟨i, m, hi, rfl, hal, J⟩ := hrel
    have J2 := Lib.hid J
    have HAL := Lib.hid hal
    have hmb : m ≤ 85000000 := by
      have h1 := J.ln
      have h2 := encAll_len hal
      have h3 : ((ps.map Prod.snd).take i).length ≤ i := List.length_take_le _ _
      omega
    clear J hal I0
    obtain ⟨Am, cm, hvm, hlm⟩ := own_slice J2.out.own
    subst hvm
    by_cases hlt : i < n
    · obtain ⟨p, hp⟩ : ∃ p, ps[i]? = some p := ⟨_, List.getElem?_eq_getElem (by have := HL.out; omega)⟩
      obtain ⟨b, off, hA, _, hat, hrv⟩ := H.out.vat hp
      subst hA
      have hpl : (ps.map Prod.snd)[i]? = some p.2 := by rw [List.getElem?_map, hp]; rfl
      obtain ⟨q0, q1, q2, q3, q4⟩ := hat.step J2.out.bel
      have hbw : b < wr.heap.size := World.block_lt_of_cell? wr _ q0
      have HR := Lib.hid hrv.lt
      have HPL := Lib.hid hpl
      have i0' : (0 : Int) ≤ (i : Int) := by omega
      have i1' : (i : Int) < (n : Int) := by omega
      clear hp hat hrv hpl
      go_upto_region 7 with fail
      change (Code.region 7 _ _).wp _ _ _ (wr.alloc (Obj.cells p.1.arr 46))
      have JB : Hid (Blk (wr.alloc (Obj.cells p.1.arr 46)) wr.heap.size 46 p.1.arr) := Blk.new_at rfl
      have J3 := Lib.hid (J2.out.step ((Below.refl wr.heap.size wr).alloc (Nat.le_refl _) (Obj.cells p.1.arr 46)))
      have NE : (Value.slice Am m cm).ownBlock ≠ some wr.heap.size := fun e => absurd (own_lt J2.out.own e) (by omega)
      generalize wr.alloc (Obj.cells p.1.arr 46) = wa at *
      generalize wr.heap.size = ga at *
      clear q0 q1 q2 q3 q4 J2
      obtain ⟨q0, q1, q2, q3, q4⟩ := VAt.of_blk JB.out
      simp only [Nat.zero_add] at q0 q1 q2 q3 q4
      have HAW := Lib.hid (allowed_any p.2 p.1 wa (HT.out.step J3.out.bel) ((HR.out.keepG fun b hb _ => ⟨trivial, J3.out.bel.block b hb.2⟩)))
      cases hA : allowB p.2
      · have HK := Lib.hid (keyR_no HPL.out hA)
        rw [hA] at HAW
        clear hA
        go_wp2_with fail
        refine HAW.out.mono ?_
        rintro e w1 ⟨rfl, hb⟩
        have J4 := Lib.hid (J3.out.step hb)
        clear q0 q1 q2 q3 q4 hb HAW J3 JB
        go_wp2_with fail
        go_ret2
        exact ⟨by rw [HK.out]; rfl, J4.out.bel⟩
      · have HSN := Lib.hid (encAll_snoc HPL.out)
        have HAS := Lib.hid (allows_snoc HPL.out HAL.out hA)
        have HE1 := Lib.hid (allow_enc hA)
        rw [hA] at HAW
        clear hA
        go_wp2_with fail
        refine HAW.out.mono ?_
        rintro e w1 ⟨rfl, hb⟩
        have J4 := Lib.hid (J3.out.step hb)
        have JB2 := Lib.hid (JB.out.step hb)
        clear q0 q1 q2 q3 q4 hb HAW J3 JB
        obtain ⟨q0, q1, q2, q3, q4⟩ := VAt.of_blk JB2.out
        simp only [Nat.zero_add] at q0 q1 q2 q3 q4
        have hap := app_any p.2 p.1 (.slice Am m cm) (encAll ((ps.map Prod.snd).take i)) w.heap.size m w1 (HR.out.keepG fun b hb _ => ⟨hb.2, J4.out.bel.block b hb.2⟩) HE1.out.1 J4.out.bel.size J4.out.ln J4.out.own (by have h1 := J4.out.ln; have h2 := HE1.out.2; omega)
        have HAP := Lib.hid hap
        clear hap
        go_upto_region 10 with fail
        go_wp2_with fail
        refine HAP.out.mono ?_
        rintro e w2 hok
        obtain ⟨v3, rfl, hJ5⟩ := J4.out.call hok
        rw [← HSN.out] at hJ5
        have J5 := Lib.hid hJ5
        clear q0 q1 q2 q3 q4 HAP hok hJ5 J4 JB2
        obtain ⟨b', off', hB, hbB, hel⟩ := HD.out.el (by omega)
        have hde := hel i false (by rw [List.getElem?_replicate, if_pos hlt]) 0 _ rfl
        have hde2 := (J5.out.bel.cell (p := ⟨b', off' + i * 1 + 0, none⟩) hbB).trans hde
        rw [Nat.mul_one, Nat.add_zero] at hde2
        subst hB
        clear hel hde
        obtain ⟨A3, c3, hv3, hlc3⟩ := own_slice J5.out.own
        subst hv3
        go_wp2_with fail
        go_roundw
        case rel => exact ⟨i + 1, _, hlt, by go_num, HAS.out, J5.out⟩
        case measure => simp [intOf]; omega
    · obtain rfl : i = n := by omega
      have hTK : (ps.map Prod.snd).take i = ps.map Prod.snd := List.take_of_length_le (by rw [List.length_map]; have := HL.out; omega)
      have hal := HAL.out
      have hln := J2.out.ln
      have hcv := own_str J2.out.own J2.out.ln
      rw [hTK] at hal hcv
      obtain ⟨Z, hZ⟩ : ∃ Z, Z = strOfNums (encAll (ps.map Prod.snd)) := ⟨_, rfl⟩
      rw [← hZ] at hcv
      have HK : Hid (keyR (ps.map Prod.snd) = (Z, 0)) := by rw [hZ]; exact keyR_yes hal
      clear hTK hal hln hZ
      go_wp2_with fail
      go_ret2
      exact ⟨by rw [HK.out]; rfl, J2.out.bel⟩

end Go.Proofs.YtlmmgjgkmbmgpaaGreatDoor

/- Checksums: plain arithmetic. -/
namespace Go.Proofs.YtlmmgjgkmbmgpaaGreatDoor
open Go.RowKit

def crcStep (r : Nat) : Nat := if r % 2 = 1 then (r / 2) ^^^ 2197175160 else r / 2
def crcSteps (r : Nat) : Nat → Nat
  | 0 => r
  | k + 1 => crcStep (crcSteps r k)
def crcByte (r b : Nat) : Nat := crcSteps (r ^^^ b) 8
def crcL (r : Nat) (l : List UInt8) : Nat := l.foldl (fun r x => crcByte r x.toNat) r
def crcSum (s : ByteArray) : Nat := crcL 4294967295 s.data.toList ^^^ 4294967295
theorem xor32 {a b : Nat} (ha : a < 4294967296) (hb : b < 4294967296) : a ^^^ b < 4294967296 := Nat.xor_lt_two_pow (n := 32) ha hb
theorem crcStep_lt {r : Nat} (h : r < 4294967296) : crcStep r < 4294967296 := by
  unfold crcStep
  split
  · exact xor32 (by omega) (by omega)
  · omega
theorem crcSteps_lt {r : Nat} (h : r < 4294967296) : ∀ k, crcSteps r k < 4294967296
  | 0 => h
  | k + 1 => crcStep_lt (crcSteps_lt h k)
theorem crcByte_lt {r b : Nat} (h : r < 4294967296) (hb : b < 256) : crcByte r b < 4294967296 := crcSteps_lt (xor32 h (by omega)) 8
theorem crcL_lt (l : List UInt8) : ∀ {r : Nat}, r < 4294967296 → crcL r l < 4294967296 := by
  induction l with
  | nil => intro r h; exact h
  | cons x l ih =>
    intro r h
    exact ih (crcByte_lt h (by have := x.toNat_lt; omega))
theorem crcSum_lt (s : ByteArray) : crcSum s < 4294967296 := by
  unfold crcSum
  exact xor32 (crcL_lt _ (by omega)) (by omega)
theorem crcL_snoc {r : Nat} {l : List UInt8} {i : Nat} {x : UInt8} (h : l[i]? = some x) : crcL r (l.take (i + 1)) = crcByte (crcL r (l.take i)) x.toNat := by
  unfold crcL
  rw [List.take_add_one, h, List.foldl_append]
  simp only [Option.toList, List.foldl_cons, List.foldl_nil]

theorem ofInt_u32 (a : Nat) (ha : a < 4294967296) : (BitVec.ofInt 32 (a : Int)).toNat = a := by
  rw [BitVec.ofInt_natCast, BitVec.toNat_ofNat]; exact Nat.mod_eq_of_lt (by omega)
theorem u32_and_one (a : Nat) (ha : a < 4294967296) : bits .and .u32 (a : Int) 1 = ((a % 2 : Nat) : Int) := by
  have e : (BitVec.ofInt 32 (1 : Int)).toNat = 1 := by decide
  show IntKind.u32.wrap ((BitVec.ofInt 32 (a : Int) &&& BitVec.ofInt 32 (1 : Int)).toNat : Int) = _
  rw [BitVec.toNat_and, ofInt_u32 a ha, e, Nat.and_one_is_mod, IntKind.wrap_u32]
  omega
theorem u32_xor_nat (a b : Nat) (ha : a < 4294967296) (hb : b < 4294967296) : bits .xor .u32 (a : Int) (b : Int) = ((a ^^^ b : Nat) : Int) := by
  have hx := xor32 ha hb
  show IntKind.u32.wrap ((BitVec.ofInt 32 (a : Int) ^^^ BitVec.ofInt 32 (b : Int)).toNat : Int) = _
  rw [BitVec.toNat_xor, ofInt_u32 a ha, ofInt_u32 b hb, IntKind.wrap_u32]
  omega
theorem not32 {a : Nat} (h : a < 4294967296) : a ^^^ 4294967295 = 4294967295 - a := by
  have h1 : (BitVec.ofNat 32 a ^^^ BitVec.allOnes 32) = ~~~ BitVec.ofNat 32 a := BitVec.xor_allOnes
  have h2 := congrArg BitVec.toNat h1
  rw [BitVec.toNat_xor, BitVec.toNat_not, BitVec.toNat_allOnes, BitVec.toNat_ofNat, Nat.mod_eq_of_lt (by omega : a < 2 ^ 32)] at h2
  simpa using h2

end Go.Proofs.YtlmmgjgkmbmgpaaGreatDoor

/- The contracts of crc.Sum and of the reference's Sum. -/
namespace Go.Proofs.YtlmmgjgkmbmgpaaGreatDoor
open Go.RowKit

theorem dsize' (t : ByteArray) : t.data.toList.length = t.size := by rw [Array.length_toList]; rfl
theorem half_nat (r : Nat) : (r : Int) / 2 = ((r / 2 : Nat) : Int) := by omega
theorem wrapu32 {a : Nat} (h : a < 4294967296) : IntKind.u32.wrap (a : Int) = (a : Int) := by rw [IntKind.wrap_u32]; omega
theorem mod2_ways (r : Nat) : (r % 2 = 1 ∧ crcStep r = (r / 2) ^^^ 2197175160) ∨ (r % 2 = 0 ∧ crcStep r = r / 2) := by
  unfold crcStep
  rcases Nat.mod_two_eq_zero_or_one r with h | h
  · exact .inr ⟨h, by rw [if_neg (by omega)]⟩
  · exact .inl ⟨h, by rw [if_pos h]⟩
/-- one step in numbers of 32 bits -/
theorem step_facts {r : Nat} (hr : r < 4294967296) : ∃ o h c : Nat, bits .and .u32 (r : Int) 1 = (o : Int) ∧ (r : Int) / 2 = (h : Int) ∧ IntKind.u32.wrap (h : Int) = (h : Int) ∧ bits .xor .u32 (h : Int) 2197175160 = (c : Int) ∧ h < 4294967296 ∧ ((o = 1 ∧ crcStep r = c) ∨ (o = 0 ∧ crcStep r = h)) := by
  refine ⟨r % 2, r / 2, (r / 2) ^^^ 2197175160, u32_and_one r hr, half_nat r, wrapu32 (by omega), u32_xor_nat (r / 2) 2197175160 (by omega) (by omega), by omega, ?_⟩
  rcases mod2_ways r with ⟨h1, h2⟩ | ⟨h1, h2⟩
  · exact .inl ⟨h1, h2⟩
  · exact .inr ⟨h1, h2⟩

set_option maxRecDepth 100000 in
set_option maxHeartbeats 1000000 in
theorem crc_any (s : ByteArray) (w : World) (hs : s.size ≤ 140737488355328) : Calls Tryz.prog 111 #[.string s] w fun e w' => e = .returned (.int .u32 ((crcSum s : Nat) : Int)) ∧ w' = w := by
  go_enter Tryz.func111, Tryz.ntmps111
  go_upto_region 3 with fail
  go_loopw [3, 4, 5, 8, 17] (fun u3 _ _ u8 _ wr => ∃ i : Nat, i ≤ s.size ∧ u8 = .int .i64 i ∧ u3 = .int .u32 ((crcL 4294967295 (s.data.toList.take i) : Nat) : Int) ∧ wr = w) (fun _ _ _ u8 _ _ => s.size - (intOf u8).toNat)
  case atStart => exact ⟨0, Nat.zero_le _, rfl, rfl, rfl⟩
  case round =>
    obtain ⟨i, hi, rfl, rfl, rfl⟩ := hrel
    have hlt32 := crcL_lt (s.data.toList.take i) (r := 4294967295) (by omega)
    obtain ⟨r, hr⟩ : ∃ r, r = crcL 4294967295 (s.data.toList.take i) := ⟨_, rfl⟩
    rw [← hr] at hlt32 ⊢
    have HR := Lib.hid hr
    clear hr
    have sz : (s.size : Int) ≤ 140737488355328 := by omega
    have i0 : (0 : Int) ≤ (i : Int) := by omega
    by_cases hlt : i < s.size
    · have hx := s[i].toNat_lt
      have HSN := Lib.hid (crcL_snoc (r := 4294967295) (bytes_at s i hlt))
      obtain ⟨b, hb⟩ : ∃ b, b = s[i].toNat := ⟨_, rfl⟩
      have hbw : IntKind.u32.wrap (s[i].toNat : Int) = (b : Int) := by rw [hb]; exact wrapu32 (by omega)
      have hxr := u32_xor_nat r b hlt32 (by omega)
      obtain ⟨r0, hr0⟩ : ∃ r0, r0 = r ^^^ b := ⟨_, rfl⟩
      have hr0l : r0 < 4294967296 := by rw [hr0]; exact xor32 hlt32 (by omega)
      rw [← hr0] at hxr
      have i1 : (i : Int) < (s.size : Int) := by omega
      have HNX : Hid (crcL 4294967295 (s.data.toList.take (i + 1)) = crcSteps r0 8) := by
        refine HSN.out.trans ?_
        rw [hr0, HR.out, hb]
        rfl
      have HR0 := Lib.hid hr0l
      clear hb hr0
      go_upto_region 7 with fail
      clear hxr hbw hx hr0l HSN
      go_loopw [3, 5, 17] (fun u3 _ u17 wx => ∃ k : Nat, k ≤ 8 ∧ u17 = .int .i64 k ∧ u3 = .int .u32 ((crcSteps r0 k : Nat) : Int) ∧ wx = wr) (fun _ _ u17 _ => 9 - (intOf u17).toNat)
      case atStart => exact ⟨0, Nat.zero_le _, rfl, rfl, rfl⟩
      case round =>
        obtain ⟨k, hk, rfl, rfl, rfl⟩ := hrel
        have hl := crcSteps_lt HR0.out k
        have hstep : crcSteps r0 (k + 1) = crcStep (crcSteps r0 k) := rfl
        obtain ⟨r1, hr1⟩ : ∃ r1, r1 = crcSteps r0 k := ⟨_, rfl⟩
        rw [← hr1] at hl hstep ⊢
        have HR1 := Lib.hid hr1
        have HST := Lib.hid hstep
        clear hr1 hstep
        by_cases hk8 : k < 8
        · obtain ⟨o, h, c, f1, f2, f3, f4, f5, f6⟩ := step_facts hl
          have HL := Lib.hid hl
          have k0 : (0 : Int) ≤ (k : Int) := by omega
          clear hl
          rcases f6 with ⟨rfl, f7⟩ | ⟨rfl, f7⟩
          · have HF := Lib.hid f7
            clear f7
            go_wp2_with fail
            go_roundw
            case rel => exact ⟨k + 1, hk8, by go_num, by rw [HST.out, HF.out], trivial⟩
            case measure => simp [intOf]; omega
          · have HF := Lib.hid f7
            clear f7
            go_wp2_with fail
            go_roundw
            case rel => exact ⟨k + 1, hk8, by go_num, by rw [HST.out, HF.out], trivial⟩
            case measure => simp [intOf]; omega
        · obtain rfl : k = 8 := by omega
          go_wp2_with fail
          go_roundw
          case rel => exact ⟨i + 1, hlt, by go_num, by rw [HNX.out, ← HR1.out], trivial⟩
          case measure => simp [intOf]; omega
    · obtain rfl : i = s.size := by omega
      have hTK : s.data.toList.take s.size = s.data.toList := List.take_of_length_le (by rw [dsize']; exact Nat.le_refl _)
      have HX : Hid (bits .xor .u32 IntKind.u32.max (r : Int) = ((crcSum s : Nat) : Int)) := by
        have e := u32_xor_nat 4294967295 r (by omega) hlt32
        rw [Nat.xor_comm] at e
        unfold Hid crcSum
        rw [← hTK, ← HR.out]
        exact e
      clear hTK
      go_wp2_with fail
      go_ret
      exact ⟨by rw [← HX.out]; rfl, rfl⟩

set_option maxRecDepth 100000 in
set_option maxHeartbeats 1000000 in
theorem rcrc_any (s : ByteArray) (w : World) (hs : s.size ≤ 140737488355328) : Calls Tryz.prog 125 #[.string s] w fun e w' => e = .returned (.int .u32 ((crcSum s : Nat) : Int)) ∧ w' = w := by
  go_enter Tryz.func125, Tryz.ntmps125
  go_upto_region 3 with fail
  go_loopw [3, 4, 5, 6] (fun u3 u8 _ _ wr => ∃ i : Nat, i ≤ s.size ∧ u8 = .int .i64 i ∧ u3 = .int .u32 ((crcL 4294967295 (s.data.toList.take i) : Nat) : Int) ∧ wr = w) (fun _ u8 _ _ _ => s.size - (intOf u8).toNat)
  case atStart => exact ⟨0, Nat.zero_le _, rfl, rfl, rfl⟩
  case round =>
    obtain ⟨i, hi, rfl, rfl, rfl⟩ := hrel
    have hlt32 := crcL_lt (s.data.toList.take i) (r := 4294967295) (by omega)
    obtain ⟨r, hr⟩ : ∃ r, r = crcL 4294967295 (s.data.toList.take i) := ⟨_, rfl⟩
    rw [← hr] at hlt32 ⊢
    have HR := Lib.hid hr
    clear hr
    have sz : (s.size : Int) ≤ 140737488355328 := by omega
    have i0 : (0 : Int) ≤ (i : Int) := by omega
    by_cases hlt : i < s.size
    · have hx := s[i].toNat_lt
      have HSN := Lib.hid (crcL_snoc (r := 4294967295) (bytes_at s i hlt))
      obtain ⟨b, hb⟩ : ∃ b, b = s[i].toNat := ⟨_, rfl⟩
      have hbw : IntKind.u32.wrap (s[i].toNat : Int) = (b : Int) := by rw [hb]; exact wrapu32 (by omega)
      have hxr := u32_xor_nat r b hlt32 (by omega)
      obtain ⟨r0, hr0⟩ : ∃ r0, r0 = r ^^^ b := ⟨_, rfl⟩
      have hr0l : r0 < 4294967296 := by rw [hr0]; exact xor32 hlt32 (by omega)
      rw [← hr0] at hxr
      have i1 : (i : Int) < (s.size : Int) := by omega
      have HNX : Hid (crcL 4294967295 (s.data.toList.take (i + 1)) = crcSteps r0 8) := by
        refine HSN.out.trans ?_
        rw [hr0, HR.out, hb]
        rfl
      have HR0 := Lib.hid hr0l
      clear hb hr0
      go_upto_region 7 with fail
      clear hxr hbw hx hr0l HSN
      go_loopw [3, 5, 6] (fun u3 u17 _ wx => ∃ k : Nat, k ≤ 8 ∧ u17 = .int .i64 k ∧ u3 = .int .u32 ((crcSteps r0 k : Nat) : Int) ∧ wx = wr) (fun _ u17 _ _ => 9 - (intOf u17).toNat)
      case atStart => exact ⟨0, Nat.zero_le _, rfl, rfl, rfl⟩
      case round =>
        obtain ⟨k, hk, rfl, rfl, rfl⟩ := hrel
        have hl := crcSteps_lt HR0.out k
        have hstep : crcSteps r0 (k + 1) = crcStep (crcSteps r0 k) := rfl
        obtain ⟨r1, hr1⟩ : ∃ r1, r1 = crcSteps r0 k := ⟨_, rfl⟩
        rw [← hr1] at hl hstep ⊢
        have HR1 := Lib.hid hr1
        have HST := Lib.hid hstep
        clear hr1 hstep
        by_cases hk8 : k < 8
        · obtain ⟨o, h, c, f1, f2, f3, f4, f5, f6⟩ := step_facts hl
          have HL := Lib.hid hl
          have k0 : (0 : Int) ≤ (k : Int) := by omega
          clear hl
          rcases f6 with ⟨rfl, f7⟩ | ⟨rfl, f7⟩
          · have HF := Lib.hid f7
            clear f7
            go_wp2_with fail
            go_roundw
            case rel => exact ⟨k + 1, hk8, by go_num, by rw [HST.out, HF.out], trivial⟩
            case measure => simp [intOf]; omega
          · have HF := Lib.hid f7
            clear f7
            go_wp2_with fail
            go_roundw
            case rel => exact ⟨k + 1, hk8, by go_num, by rw [HST.out, HF.out], trivial⟩
            case measure => simp [intOf]; omega
        · obtain rfl : k = 8 := by omega
          go_wp2_with fail
          go_roundw
          case rel => exact ⟨i + 1, hlt, by go_num, by rw [HNX.out, ← HR1.out], trivial⟩
          case measure => simp [intOf]; omega
    · obtain rfl : i = s.size := by omega
      have hTK : s.data.toList.take s.size = s.data.toList := List.take_of_length_le (by rw [dsize']; exact Nat.le_refl _)
      have HX : Hid (bits .xor .u32 (r : Int) 4294967295 = ((crcSum s : Nat) : Int)) := by
        have e := u32_xor_nat r 4294967295 hlt32 (by omega)
        unfold Hid crcSum
        rw [← hTK, ← HR.out]
        exact e
      clear hTK
      go_wp2_with fail
      go_ret
      exact ⟨by rw [← HX.out]; rfl, rfl⟩

end Go.Proofs.YtlmmgjgkmbmgpaaGreatDoor

/- The contracts of shardkey.encode and Hash. Printed by gen_shcode.py. -/
namespace Go.Proofs.YtlmmgjgkmbmgpaaGreatDoor
open Go.RowKit

/-- the hash of a value -/
noncomputable def hashV (x : Val) : Int := if allowB x then ((crcSum (strOfNums (encV x)) : Nat) : Int) else 0
theorem hashV_range (x : Val) : 0 ≤ hashV x ∧ hashV x < 4294967296 := by
  unfold hashV
  split
  · have := crcSum_lt (strOfNums (encV x)); omega
  · omega
theorem keyR_one_yes {x : Val} (h : allowB x = true) : keyR [x] = (strOfNums (encV x), 0) := by
  have e : encAll [x] = encV x := by simp [encAll]
  rw [keyR_yes (by simp [allowsB, h]), e]
theorem keyR_one_no {x : Val} (h : allowB x = false) : keyR [x] = (ByteArray.empty, 8) := keyR_no (i := 0) rfl h
/-- a value that is laid as the one element of a slice -/
theorem sl_one {w : World} {g : Nat} {c : VC} {x : Val} (h : Blk w g 46 c.arr) (hr : RW w c x) : SL (fun _ => True) w (some ⟨g, 0, none⟩) 1 1 [(c, x)] := by
  refine ⟨⟨rfl, Nat.le_refl _, fun _ => ⟨g, 0, rfl, h.lt, fun i a hi j v hj => ?_⟩⟩, by decide, fun _ => ⟨g, 0, rfl, Ft.top⟩, fun p hp => ?_⟩
  · cases i with
    | zero =>
      simp at hi
      subst hi
      have := vat_cell (VAt.of_blk h) j v hj
      simpa using this
    | succ i => simp at hi
  · simp at hp
    subst hp
    exact hr
theorem sx_one {w : World} {g : Nat} {t : TypeId} (h : Blk w g t #[.bool false]) : SR 1 recX w (some ⟨g, 0, none⟩) 1 1 (List.replicate 1 false) := by
  refine ⟨rfl, Nat.le_refl _, fun _ => ⟨g, 0, rfl, h.lt, fun i a hi j v hj => ?_⟩⟩
  cases i with
  | zero =>
    simp at hi
    subst hi
    cases j with
    | zero => simp [recX] at hj; subst hj; exact h.cell 0
    | succ j => simp [recX] at hj
  | succ i => simp at hi

set_option maxRecDepth 100000 in
set_option maxHeartbeats 1000000 in
theorem code_any (x : Val) (c : VC) (w : World) (hT : Tabs w) (h : RW w c x) :
    Calls Tryz.prog 110 #[c.val] w fun e w' => e = .returned (.tuple #[.string (keyR [x]).1, .int .i64 (keyR [x]).2]) ∧ Below w.heap.size w w' := by
  have H := Lib.hid h
  have HT := Lib.hid hT
  have BE : Hid (Below w.heap.size w (((w.alloc (Obj.cells c.arr 46)).alloc (Obj.cells c.arr 46)).alloc (Obj.cells #[.bool false] 4))) := (((Below.refl _ _).alloc (Nat.le_refl _) _).alloc (by simp) _).alloc (by simp; omega) _
  have B1 : Hid (Blk (((w.alloc (Obj.cells c.arr 46)).alloc (Obj.cells c.arr 46)).alloc (Obj.cells #[.bool false] 4)) (w.heap.size + 1) 46 c.arr) := (Blk.new_at (by simp)).alloc _
  have B2 : Hid (Blk (((w.alloc (Obj.cells c.arr 46)).alloc (Obj.cells c.arr 46)).alloc (Obj.cells #[.bool false] 4)) (w.heap.size + 2) 4 #[.bool false]) := Blk.new_at (by simp)
  obtain ⟨wb, hwb⟩ : ∃ wb, wb = (((w.alloc (Obj.cells c.arr 46)).alloc (Obj.cells c.arr 46)).alloc (Obj.cells #[.bool false] 4)) := ⟨_, rfl⟩
  rw [← hwb] at BE B1 B2
  have HC := Lib.hid (encode_any [(c, x)] (some ⟨w.heap.size + 1, 0, none⟩) (some ⟨w.heap.size + 2, 0, none⟩) 1 1 1 wb (HT.out.step BE.out) (sl_one B1.out (H.out.step BE.out)) (sx_one B2.out) (by omega))
  rw [hwb] at HC
  have HWB := Lib.hid hwb
  clear h hT hwb
  simp only [List.map_cons, List.map_nil] at HC
  obtain ⟨K, hK⟩ : ∃ K, keyR [x] = K := ⟨_, rfl⟩
  rw [hK] at HC ⊢
  clear hK
  obtain ⟨K1, K2⟩ := K
  go_enter Tryz.func110, Tryz.ntmps110
  go_wp2_with fail
  refine HC.out.mono ?_
  rintro e w1 ⟨rfl, hb⟩
  rw [← HWB.out] at hb
  have CE := Lib.hid (BE.out.step' hb)
  clear hb HC B1 B2
  go_wp2_with fail
  go_ret2
  exact ⟨rfl, CE.out⟩

set_option maxRecDepth 100000 in
set_option maxHeartbeats 1000000 in
theorem hash_any (x : Val) (c : VC) (w : World) (hT : Tabs w) (h : RW w c x) :
    Calls Tryz.prog 70 #[c.val] w fun e w' => e = .returned (.int .i64 (hashV x)) ∧ Below w.heap.size w w' := by
  have H := Lib.hid h
  have B0 : Hid (Blk (w.alloc (Obj.cells c.arr 46)) w.heap.size 46 c.arr) := Blk.new_at rfl
  have BE : Hid (Below w.heap.size w (w.alloc (Obj.cells c.arr 46))) := (Below.refl _ _).alloc (Nat.le_refl _) _
  have HC := Lib.hid fun (w1 : World) (hb : Below w.heap.size w w1) => code_any x c w1 (hT.step hb) (h.step hb)
  clear h hT
  go_enter Tryz.func70, Tryz.ntmps70
  go_upto_region 1 with fail
  change (Code.region 1 _ _).wp _ _ _ (w.alloc (Obj.cells c.arr 46))
  generalize w.alloc (Obj.cells c.arr 46) = wa at *
  obtain ⟨q0, q1, q2, q3, q4⟩ := VAt.of_blk B0.out
  simp only [Nat.zero_add] at q0 q1 q2 q3 q4
  have HCA := Lib.hid (HC.out wa BE.out)
  cases hA : allowB x
  · have HV : Hid (hashV x = 0) := by unfold Hid hashV; rw [hA]; rfl
    rw [keyR_one_no hA] at HCA
    clear hA HC
    go_wp2_with fail
    refine HCA.out.mono ?_
    rintro e w1 ⟨rfl, hb⟩
    have CE := Lib.hid (BE.out.step' hb)
    clear q0 q1 q2 q3 q4 hb HCA B0
    go_wp2_with fail
    go_ret
    exact ⟨by rw [HV.out]; rfl, CE.out⟩
  · have HV : Hid (hashV x = ((crcSum (strOfNums (encV x)) : Nat) : Int)) := by unfold Hid hashV; rw [hA]; rfl
    have hz := (allow_enc hA).2
    have hzz : (strOfNums (encV x)).size ≤ 140737488355328 := by rw [strOfNums_size]; omega
    rw [keyR_one_yes hA] at HCA
    have hlt := crcSum_lt (strOfNums (encV x))
    obtain ⟨S, hS⟩ : ∃ S, S = strOfNums (encV x) := ⟨_, rfl⟩
    rw [← hS] at HCA HV hzz hlt
    have HZ := Lib.hid hzz
    obtain ⟨q, hq⟩ : ∃ q, q = crcSum S := ⟨_, rfl⟩
    rw [← hq] at HV hlt
    have HQ := Lib.hid hq
    have qz : (q : Int) < 4294967296 := by omega
    clear hA HC hS hz hzz hlt hq
    go_wp2_with fail
    refine HCA.out.mono ?_
    rintro e w1 ⟨rfl, hb⟩
    have CE := Lib.hid (BE.out.step' hb)
    clear q0 q1 q2 q3 q4 hb HCA B0
    go_wp2_with fail
    refine (crc_any S w1 HZ.out).mono ?_
    rintro e w2 ⟨rfl, rfl⟩
    rw [← HQ.out]
    go_wp2_with fail
    go_ret
    exact ⟨by rw [HV.out]; rfl, CE.out⟩

end Go.Proofs.YtlmmgjgkmbmgpaaGreatDoor

/- The order of values in plain words. -/
namespace Go.Proofs.YtlmmgjgkmbmgpaaGreatDoor

abbrev cmpI (x y : Int) : Int := Lib.compareInt x y
def cmpB (a b : ByteArray) : Int := Lib.compareBytes a.data.toList b.data.toList
mutual
def cmpV : Val → Val → Int
  | .mk k n t l d, y =>
    if k ≠ y.k then cmpI k y.k
    else if k = 3 ∨ k = 9 ∨ k = 10 then cmpI n y.n
    else if k = 4 ∨ k = 7 ∨ k = 8 then cmpB t y.t
    else if k = 6 then cmpL l y.l
    else if k = 5 then cmpD d y.d
    else 0
def cmpL : List Val → List Val → Int
  | [], m => if m.isEmpty then 0 else -1
  | _ :: _, [] => 1
  | x :: r, y :: s => if cmpV x y ≠ 0 then cmpV x y else cmpL r s
def cmpD : List Fld → List Fld → Int
  | [], m => if m.isEmpty then 0 else -1
  | _ :: _, [] => 1
  | x :: r, y :: s => if cmpF x y ≠ 0 then cmpF x y else cmpD r s
def cmpF : Fld → Fld → Int
  | .mk s v, g => if cmpB s g.s ≠ 0 then cmpB s g.s else cmpV v g.v
end
theorem cmpF_eq (f g : Fld) : cmpF f g = if cmpB f.s g.s ≠ 0 then cmpB f.s g.s else cmpV f.v g.v := by cases f; rw [cmpF]; rfl
theorem cmpV_eq (x y : Val) : cmpV x y = if x.k ≠ y.k then cmpI x.k y.k else if x.k = 3 ∨ x.k = 9 ∨ x.k = 10 then cmpI x.n y.n else if x.k = 4 ∨ x.k = 7 ∨ x.k = 8 then cmpB x.t y.t
    else if x.k = 6 then cmpL x.l y.l else if x.k = 5 then cmpD x.d y.d else 0 := by
  cases x
  rw [cmpV]
  rfl
theorem cmpV_kind {x y : Val} (h : x.k ≠ y.k) : cmpV x y = cmpI x.k y.k := by rw [cmpV_eq, if_pos h]
theorem cmpV_int {x y : Val} (h : x.k = y.k) (h' : x.k = 3 ∨ x.k = 9 ∨ x.k = 10) : cmpV x y = cmpI x.n y.n := by rw [cmpV_eq, if_neg (by simpa using h), if_pos h']
theorem cmpV_text {x y : Val} (h : x.k = y.k) (h' : x.k = 4 ∨ x.k = 7 ∨ x.k = 8) : cmpV x y = cmpB x.t y.t := by rw [cmpV_eq, if_neg (by simpa using h), if_neg (by omega), if_pos h']
theorem cmpV_list {x y : Val} (h : x.k = y.k) (h' : x.k = 6) : cmpV x y = cmpL x.l y.l := by rw [cmpV_eq, if_neg (by simpa using h), if_neg (by omega), if_neg (by omega), if_pos h']
theorem cmpV_doc {x y : Val} (h : x.k = y.k) (h' : x.k = 5) : cmpV x y = cmpD x.d y.d := by rw [cmpV_eq, if_neg (by simpa using h), if_neg (by omega), if_neg (by omega), if_neg (by omega), if_pos h']
theorem cmpV_other {x y : Val} (h : x.k = y.k) (h3 : x.k ≠ 3) (h9 : x.k ≠ 9) (h10 : x.k ≠ 10) (h4 : x.k ≠ 4) (h7 : x.k ≠ 7) (h8 : x.k ≠ 8) (h6 : x.k ≠ 6) (h5 : x.k ≠ 5) : cmpV x y = 0 := by
  rw [cmpV_eq, if_neg (by simpa using h), if_neg (by omega), if_neg (by omega), if_neg h6, if_neg h5]
theorem cmpI_nat (a b : Nat) : cmpI (a : Int) (b : Int) = if a < b then -1 else if b < a then 1 else 0 := by
  unfold cmpI Lib.compareInt
  rcases Nat.lt_trichotomy a b with h | h | h
  · rw [if_pos (by omega), if_pos h]
  · rw [if_neg (by omega), if_neg (by omega), if_neg (by omega), if_neg (by omega)]
  · rw [if_neg (by omega), if_pos (by omega), if_neg (by omega), if_pos h]
theorem cmpL_end {l m : List Val} {i : Nat} (h1 : i ≤ l.length) (h2 : i ≤ m.length) (h : l.length ≤ i ∨ m.length ≤ i) : cmpL (l.drop i) (m.drop i) = cmpI (l.length : Int) (m.length : Int) := by
  rw [cmpI_nat]
  by_cases hl : l.length ≤ i
  · rw [List.drop_of_length_le hl, cmpL]
    by_cases hm : m.length ≤ i
    · rw [List.drop_of_length_le hm, List.isEmpty_nil, if_pos (Eq.refl true), if_neg (by omega), if_neg (by omega)]
    · rw [if_neg (by simp; omega), if_pos (by omega)]
  · have hm : m.length ≤ i := by omega
    rw [List.drop_of_length_le hm, List.drop_eq_getElem_cons (by omega : i < l.length), cmpL, if_neg (by omega), if_pos (by omega)]
theorem cmpL_at {l m : List Val} {i : Nat} {x y : Val} (hx : l[i]? = some x) (hy : m[i]? = some y) : cmpL (l.drop i) (m.drop i) = if cmpV x y ≠ 0 then cmpV x y else cmpL (l.drop (i + 1)) (m.drop (i + 1)) := by
  rw [drop_of hx, drop_of hy, cmpL]
theorem cmpD_end {l m : List Fld} {i : Nat} (h1 : i ≤ l.length) (h2 : i ≤ m.length) (h : l.length ≤ i ∨ m.length ≤ i) : cmpD (l.drop i) (m.drop i) = cmpI (l.length : Int) (m.length : Int) := by
  rw [cmpI_nat]
  by_cases hl : l.length ≤ i
  · rw [List.drop_of_length_le hl, cmpD]
    by_cases hm : m.length ≤ i
    · rw [List.drop_of_length_le hm, List.isEmpty_nil, if_pos (Eq.refl true), if_neg (by omega), if_neg (by omega)]
    · rw [if_neg (by simp; omega), if_pos (by omega)]
  · have hm : m.length ≤ i := by omega
    rw [List.drop_of_length_le hm, List.drop_eq_getElem_cons (by omega : i < l.length), cmpD, if_neg (by omega), if_pos (by omega)]
theorem cmpD_at {l m : List Fld} {i : Nat} {x y : Fld} (hx : l[i]? = some x) (hy : m[i]? = some y) : cmpD (l.drop i) (m.drop i) = if cmpB x.s y.s ≠ 0 then cmpB x.s y.s else if cmpV x.v y.v ≠ 0 then cmpV x.v y.v else cmpD (l.drop (i + 1)) (m.drop (i + 1)) := by
  rw [drop_of hx, drop_of hy, cmpD, cmpF_eq]
  by_cases hb : cmpB x.s y.s = 0
  · simp [hb]
  · simp [hb]
/-- the ways of a comparison of equal kinds -/
theorem kind_ways (k : Int) : (k = 3 ∨ k = 9 ∨ k = 10) ∨ (k = 4 ∨ k = 7 ∨ k = 8) ∨ k = 6 ∨ k = 5 ∨ (k ≠ 3 ∧ k ≠ 9 ∧ k ≠ 10 ∧ k ≠ 4 ∧ k ≠ 7 ∧ k ≠ 8 ∧ k ≠ 6 ∧ k ≠ 5) := by omega

end Go.Proofs.YtlmmgjgkmbmgpaaGreatDoor

/- Stores into a list, one behind the other. -/
namespace Go.Proofs.YtlmmgjgkmbmgpaaGreatDoor
open Go.RowKit

/-- stores into a list, one behind the other -/
def setList {α : Type} (l : List α) (k : Nat) : List α → List α
  | [] => l
  | v :: vs => setList (l.set k v) (k + 1) vs
theorem setList_eq {α : Type} : ∀ (vs l : List α) (k : Nat), k + vs.length ≤ l.length → setList l k vs = l.take k ++ vs ++ l.drop (k + vs.length) := by
  intro vs
  induction vs with
  | nil => intro l k _; simp [setList]
  | cons v vs ih =>
    intro l k h
    simp only [List.length_cons] at h
    rw [setList, ih _ _ (by simp; omega), List.take_set, List.drop_set_of_lt (by omega)]
    have e1 : (l.take (k + 1)).set k v = l.take k ++ [v] := by
      rw [List.take_succ_eq_append_getElem (by omega), List.set_append_right _ _ (by simp; omega)]
      simp
      rw [show k - min k l.length = 0 by omega]
      rfl
    rw [e1]
    simp only [List.append_assoc, List.singleton_append, List.length_cons, show k + 1 + vs.length = k + (vs.length + 1) by omega]

end Go.Proofs.YtlmmgjgkmbmgpaaGreatDoor

/- Three comparisons that fit. -/
namespace Go.Proofs.YtlmmgjgkmbmgpaaGreatDoor

/-- three results of a comparison fit -/
def TR (a b c : Int) : Prop := a ≤ 0 → b ≤ 0 → c ≤ 0 ∧ (c = 0 ↔ a = 0 ∧ b = 0)

end Go.Proofs.YtlmmgjgkmbmgpaaGreatDoor

/- The order of values is total; valid values that compare equal are identical. -/
namespace Go.Proofs.YtlmmgjgkmbmgpaaGreatDoor

def lex (c d : Int) : Int := if c ≠ 0 then c else d
theorem lex_eq (c d : Int) : (if c ≠ 0 then c else d) = lex c d := rfl
theorem lex_ways (c d : Int) : c ≠ 0 ∧ lex c d = c ∨ c = 0 ∧ lex c d = d := by
  unfold lex
  by_cases h : c = 0
  · exact .inr ⟨h, by simp [h]⟩
  · exact .inl ⟨h, by simp [h]⟩
theorem TR.lx {a b c a' b' c' : Int} (h : TR a b c) (h' : TR a' b' c') : TR (lex a a') (lex b b') (lex c c') := by
  intro h1 h2
  rcases lex_ways a a' with ha | ha <;> rcases lex_ways b b' with hb | hb <;> rcases lex_ways c c' with hc | hc
  all_goals
    have H := h (by omega) (by omega)
    by_cases hab : a = 0 ∧ b = 0
    · have H' := h' (by omega) (by omega)
      omega
    · omega
theorem cmpI_rng (a b : Int) : -1 ≤ cmpI a b ∧ cmpI a b ≤ 1 := by unfold cmpI Lib.compareInt; repeat' split <;> omega
theorem cmpI_anti (a b : Int) : cmpI b a = -cmpI a b := by unfold cmpI Lib.compareInt; repeat' split <;> omega
theorem cmpI_ways (a b : Int) : a < b ∧ cmpI a b = -1 ∨ a = b ∧ cmpI a b = 0 ∨ b < a ∧ cmpI a b = 1 := by unfold cmpI Lib.compareInt; repeat' split <;> omega
theorem cmpI_tr (a b c : Int) : TR (cmpI a b) (cmpI b c) (cmpI a c) := by
  unfold TR
  intro h1 h2
  rcases cmpI_ways a b with h | h | h <;> rcases cmpI_ways b c with h' | h' | h' <;> rcases cmpI_ways a c with h3 | h3 | h3 <;> omega
theorem cmpI_zero {a b : Int} : cmpI a b = 0 ↔ a = b := by unfold cmpI Lib.compareInt; repeat' split <;> omega
theorem cmpBy_rng : ∀ a b : List UInt8, -1 ≤ Lib.compareBytes a b ∧ Lib.compareBytes a b ≤ 1
  | [], [] => by simp [Lib.compareBytes]
  | [], _ :: _ => by simp [Lib.compareBytes]
  | _ :: _, [] => by simp [Lib.compareBytes]
  | a :: a2, b :: b2 => by
    rw [Lib.compareBytes]
    repeat' split
    · omega
    · omega
    · exact cmpBy_rng a2 b2
theorem cmpBy_lex (a b : UInt8) (l m : List UInt8) : Lib.compareBytes (a :: l) (b :: m) = lex (cmpI (a.toNat : Int) (b.toNat : Int)) (Lib.compareBytes l m) := by
  rw [Lib.compareBytes]
  unfold cmpI Lib.compareInt lex
  have e1 : a < b ↔ a.toNat < b.toNat := UInt8.lt_iff_toNat_lt
  have e2 : b < a ↔ b.toNat < a.toNat := UInt8.lt_iff_toNat_lt
  rcases Nat.lt_trichotomy a.toNat b.toNat with h | h | h
  · rw [if_pos (e1.2 h), if_pos (show (a.toNat : Int) < b.toNat by omega)]; rfl
  · rw [if_neg (by rw [e1]; omega), if_neg (by rw [e2]; omega), if_neg (show ¬ (a.toNat : Int) < b.toNat by omega), if_neg (show ¬ (a.toNat : Int) > b.toNat by omega)]; rfl
  · rw [if_neg (by rw [e1]; omega), if_pos (e2.2 h), if_neg (show ¬ (a.toNat : Int) < b.toNat by omega), if_pos (show (a.toNat : Int) > b.toNat by omega)]; rfl
theorem lex_anti {c d c' d' : Int} (h : c' = -c) (h' : d' = -d) : lex c' d' = -lex c d := by unfold lex; repeat' split <;> omega
theorem lex_rng {c d : Int} (h : -1 ≤ c ∧ c ≤ 1) (h' : -1 ≤ d ∧ d ≤ 1) : -1 ≤ lex c d ∧ lex c d ≤ 1 := by unfold lex; split <;> omega
theorem lex_zero {c d : Int} : lex c d = 0 ↔ c = 0 ∧ d = 0 := by unfold lex; split <;> omega
theorem cmpBy_anti : ∀ a b : List UInt8, Lib.compareBytes b a = -Lib.compareBytes a b
  | [], [] => by simp [Lib.compareBytes]
  | [], _ :: _ => by simp [Lib.compareBytes]
  | _ :: _, [] => by simp [Lib.compareBytes]
  | a :: a2, b :: b2 => by rw [cmpBy_lex, cmpBy_lex]; exact lex_anti (cmpI_anti _ _) (cmpBy_anti a2 b2)
theorem cmpBy_tr : ∀ a b c : List UInt8, TR (Lib.compareBytes a b) (Lib.compareBytes b c) (Lib.compareBytes a c)
  | [], [], [] => by simp [Lib.compareBytes, TR]
  | [], [], _ :: _ => by simp [Lib.compareBytes, TR]
  | [], _ :: _, [] => by simp [Lib.compareBytes, TR]
  | [], _ :: _, _ :: _ => by simp [Lib.compareBytes, TR]
  | _ :: _, [], [] => by simp [Lib.compareBytes, TR]
  | _ :: _, [], _ :: _ => by simp [Lib.compareBytes, TR]
  | _ :: _, _ :: _, [] => by simp [Lib.compareBytes, TR]
  | a :: a2, b :: b2, c :: c2 => by
    rw [cmpBy_lex, cmpBy_lex, cmpBy_lex]
    exact (cmpI_tr _ _ _).lx (cmpBy_tr a2 b2 c2)
theorem cmpBy_zero : ∀ a b : List UInt8, Lib.compareBytes a b = 0 ↔ a = b
  | [], [] => by simp [Lib.compareBytes]
  | [], _ :: _ => by simp [Lib.compareBytes]
  | _ :: _, [] => by simp [Lib.compareBytes]
  | a :: a2, b :: b2 => by
    rw [cmpBy_lex, lex_zero, cmpI_zero, cmpBy_zero a2 b2]
    constructor
    · rintro ⟨h1, rfl⟩
      rw [show a = b from UInt8.toNat_inj.1 (by omega)]
    · intro h
      injection h with h1 h2
      exact ⟨by rw [h1], h2⟩
theorem cmpB_zero {a b : ByteArray} : cmpB a b = 0 ↔ a = b := by
  unfold cmpB
  rw [cmpBy_zero]
  exact ⟨fun h => Go.WideShapes.bytes_inj h, fun h => by rw [h]⟩

/-- what holds of the comparison with a value -/
structure OrdAt (x : Val) : Prop where
  rng : ∀ y, -1 ≤ cmpV x y ∧ cmpV x y ≤ 1
  anti : ∀ y, cmpV y x = -cmpV x y
  tr : ∀ y z, TR (cmpV x y) (cmpV y z) (cmpV x z)
structure OrdL (l : List Val) : Prop where
  rng : ∀ m, -1 ≤ cmpL l m ∧ cmpL l m ≤ 1
  anti : ∀ m, cmpL m l = -cmpL l m
  tr : ∀ m n, TR (cmpL l m) (cmpL m n) (cmpL l n)
structure OrdD (l : List Fld) : Prop where
  rng : ∀ m, -1 ≤ cmpD l m ∧ cmpD l m ≤ 1
  anti : ∀ m, cmpD m l = -cmpD l m
  tr : ∀ m n, TR (cmpD l m) (cmpD m n) (cmpD l n)
theorem cmpF_lex (f g : Fld) : cmpF f g = lex (cmpB f.s g.s) (cmpV f.v g.v) := by rw [cmpF_eq]; rfl
theorem cmpL_cons (x y : Val) (r s : List Val) : cmpL (x :: r) (y :: s) = lex (cmpV x y) (cmpL r s) := by rw [cmpL]; rfl
theorem cmpD_cons (x y : Fld) (r s : List Fld) : cmpD (x :: r) (y :: s) = lex (cmpF x y) (cmpD r s) := by rw [cmpD]; rfl
theorem ordVL : ∀ l : List Val, (∀ x ∈ l, OrdAt x) → OrdL l := by
  intro l
  induction l with
  | nil =>
    intro _
    refine ⟨fun m => ?_, fun m => ?_, fun m n => ?_⟩
    · cases m <;> simp [cmpL]
    · cases m <;> simp [cmpL]
    · cases m <;> cases n <;> simp [cmpL, TR]
  | cons x r ih =>
    intro h
    have hx := h x (by simp)
    have hr := ih fun y hy => h y (by simp [hy])
    refine ⟨fun m => ?_, fun m => ?_, fun m n => ?_⟩
    · cases m with
      | nil => simp [cmpL]
      | cons y s => rw [cmpL_cons]; exact lex_rng (hx.rng y) (hr.rng s)
    · cases m with
      | nil => simp [cmpL]
      | cons y s => rw [cmpL_cons, cmpL_cons]; exact lex_anti (hx.anti y) (hr.anti s)
    · cases m with
      | nil => cases n <;> simp [cmpL, TR]
      | cons y s =>
        cases n with
        | nil => simp [cmpL, TR]
        | cons z t =>
          rw [cmpL_cons, cmpL_cons, cmpL_cons]
          exact (hx.tr y z).lx (hr.tr s t)
theorem cmpB_rng (a b : ByteArray) : -1 ≤ cmpB a b ∧ cmpB a b ≤ 1 := cmpBy_rng _ _
theorem cmpB_anti (a b : ByteArray) : cmpB b a = -cmpB a b := cmpBy_anti _ _
theorem cmpB_tr (a b c : ByteArray) : TR (cmpB a b) (cmpB b c) (cmpB a c) := cmpBy_tr _ _ _
theorem ordD : ∀ l : List Fld, (∀ f ∈ l, OrdAt f.v) → OrdD l := by
  intro l
  induction l with
  | nil =>
    intro _
    refine ⟨fun m => ?_, fun m => ?_, fun m n => ?_⟩
    · cases m <;> simp [cmpD]
    · cases m <;> simp [cmpD]
    · cases m <;> cases n <;> simp [cmpD, TR]
  | cons x r ih =>
    intro h
    have hx := h x (by simp)
    have hr := ih fun y hy => h y (by simp [hy])
    refine ⟨fun m => ?_, fun m => ?_, fun m n => ?_⟩
    · cases m with
      | nil => simp [cmpD]
      | cons y s => rw [cmpD_cons, cmpF_lex]; exact lex_rng (lex_rng (cmpB_rng _ _) (hx.rng y.v)) (hr.rng s)
    · cases m with
      | nil => simp [cmpD]
      | cons y s => rw [cmpD_cons, cmpD_cons, cmpF_lex, cmpF_lex]; exact lex_anti (lex_anti (cmpB_anti _ _) (hx.anti y.v)) (hr.anti s)
    · cases m with
      | nil => cases n <;> simp [cmpD, TR]
      | cons y s =>
        cases n with
        | nil => simp [cmpD, TR]
        | cons z t =>
          rw [cmpD_cons, cmpD_cons, cmpD_cons, cmpF_lex, cmpF_lex, cmpF_lex]
          exact ((cmpB_tr _ _ _).lx (hx.tr y.v z.v)).lx (hr.tr s t)
/-- the comparison of values of one kind -/
def cmpK (x y : Val) : Int := if x.k = 3 ∨ x.k = 9 ∨ x.k = 10 then cmpI x.n y.n else if x.k = 4 ∨ x.k = 7 ∨ x.k = 8 then cmpB x.t y.t else if x.k = 6 then cmpL x.l y.l else if x.k = 5 then cmpD x.d y.d else 0
theorem cmpV_K {x y : Val} (h : x.k = y.k) : cmpV x y = cmpK x y := by rw [cmpV_eq, if_neg (by simpa using h)]; rfl
theorem ordAt : ∀ x, OrdAt x := by
  intro x
  induction x using Val.ind with
  | h k n t l d ihl ihd =>
  have hL := ordVL l ihl
  have hD := ordD d ihd
  have rK : ∀ y, -1 ≤ cmpK (.mk k n t l d) y ∧ cmpK (.mk k n t l d) y ≤ 1 := by
    intro y
    unfold cmpK
    split
    · exact cmpI_rng _ _
    · split
      · exact cmpB_rng _ _
      · split
        · exact hL.rng y.l
        · split
          · exact hD.rng y.d
          · omega
  have aK : ∀ y, y.k = k → cmpK y (.mk k n t l d) = -cmpK (.mk k n t l d) y := by
    intro y hy
    unfold cmpK
    rw [hy]
    simp only [show (Val.mk k n t l d).k = k from rfl]
    split
    · exact cmpI_anti _ _
    · split
      · exact cmpB_anti _ _
      · split
        · exact hL.anti y.l
        · split
          · exact hD.anti y.d
          · rfl
  have tK : ∀ y z, y.k = k → TR (cmpK (.mk k n t l d) y) (cmpK y z) (cmpK (.mk k n t l d) z) := by
    intro y z hy
    unfold cmpK
    rw [hy]
    simp only [show (Val.mk k n t l d).k = k from rfl]
    split
    · exact cmpI_tr _ _ _
    · split
      · exact cmpB_tr _ _ _
      · split
        · exact hL.tr y.l z.l
        · split
          · exact hD.tr y.d z.d
          · simp [TR]
  refine ⟨fun y => ?_, fun y => ?_, fun y z => ?_⟩
  · by_cases h : (Val.mk k n t l d).k = y.k
    · rw [cmpV_K h]; exact rK y
    · rw [cmpV_kind h]; exact cmpI_rng _ _
  · by_cases h : (Val.mk k n t l d).k = y.k
    · rw [cmpV_K h, cmpV_K h.symm]; exact aK y h.symm
    · rw [cmpV_kind h, cmpV_kind (fun e => h e.symm)]; exact cmpI_anti _ _
  · intro h1 h2
    have hk : (Val.mk k n t l d).k = k := rfl
    have ek : cmpI k y.k ≤ 0 := by
      by_cases h : k = y.k
      · rw [cmpI_zero.2 h]; omega
      · rw [cmpV_kind (by rw [hk]; exact h)] at h1; exact h1
    have ek2 : cmpI y.k z.k ≤ 0 := by
      by_cases h : y.k = z.k
      · rw [cmpI_zero.2 h]; omega
      · rw [cmpV_kind h] at h2; exact h2
    have ek3 := cmpI_tr k y.k z.k ek ek2
    by_cases h : k = y.k
    · by_cases h' : y.k = z.k
      · rw [cmpV_K (y := y) (by rw [hk]; exact h)] at h1 ⊢
        rw [cmpV_K h'] at h2 ⊢
        rw [cmpV_K (y := z) (by rw [hk]; omega)]
        exact tK y z h.symm h1 h2
      · have h3 : k ≠ z.k := by omega
        rw [cmpV_kind h'] at h2 ⊢
        rw [cmpV_kind (y := z) (by rw [hk]; exact h3), hk, ← h]
        have := fun e => h3 (cmpI_zero.1 e)
        rw [← h] at h2
        refine ⟨h2, fun e => absurd e this, fun e => absurd e.2 this⟩
    · have h3 : cmpI k y.k ≠ 0 := fun e => h (cmpI_zero.1 e)
      have h4 : cmpI k z.k ≠ 0 := fun e => h3 (ek3.2.1 e).1
      have e1 : cmpV (.mk k n t l d) y = cmpI k y.k := cmpV_kind (by rw [hk]; exact h)
      have e2 : cmpV (.mk k n t l d) z = cmpI k z.k := cmpV_kind (by rw [hk]; exact fun e => h4 (cmpI_zero.2 e))
      rw [e1, e2]
      exact ⟨ek3.1, fun e => absurd e h4, fun e => absurd e.1 h3⟩
theorem cmpV_rng (x y : Val) : -1 ≤ cmpV x y ∧ cmpV x y ≤ 1 := (ordAt x).rng y
theorem cmpV_anti (x y : Val) : cmpV y x = -cmpV x y := (ordAt x).anti y
theorem cmpV_tr (x y z : Val) : TR (cmpV x y) (cmpV y z) (cmpV x z) := (ordAt x).tr y z
theorem cmpV_self (x : Val) : cmpV x x = 0 := by have := cmpV_anti x x; omega

/-- sound values that compare equal are identical -/
theorem cmpL_eq {l : List Val} : ∀ {m : List Val}, (∀ x ∈ l, ∀ y, cmpV x y = 0 → y ∈ m → x = y) → cmpL l m = 0 → l = m := by
  induction l with
  | nil => intro m _ h; cases m with
    | nil => rfl
    | cons y s => simp [cmpL] at h
  | cons x r ih =>
    intro m hx h
    cases m with
    | nil => simp [cmpL] at h
    | cons y s =>
      rw [cmpL_cons, lex_zero] at h
      rw [hx x (by simp) y h.1 (by simp), ih (fun a ha b hb hm => hx a (by simp [ha]) b hb (by simp [hm])) h.2]
theorem cmpD_eq {l : List Fld} : ∀ {m : List Fld}, (∀ x ∈ l, ∀ y, cmpV x.v y.v = 0 → y ∈ m → x.v = y.v) → cmpD l m = 0 → l = m := by
  induction l with
  | nil => intro m _ h; cases m with
    | nil => rfl
    | cons y s => simp [cmpD] at h
  | cons x r ih =>
    intro m hx h
    cases m with
    | nil => simp [cmpD] at h
    | cons y s =>
      rw [cmpD_cons, lex_zero, cmpF_lex, lex_zero] at h
      have e1 : x.s = y.s := cmpB_zero.1 h.1.1
      have e2 : x.v = y.v := hx x (by simp) y h.1.2 (by simp)
      have e : x = y := by cases x; cases y; simp only [Fld.s, Fld.v] at e1 e2; rw [e1, e2]
      rw [e, ih (fun a ha b hb hm => hx a (by simp [ha]) b hb (by simp [hm])) h.2]
theorem cmpV_same {nm : ByteArray → Bool} : ∀ x y : Val, SoundV nm x → SoundV nm y → cmpV x y = 0 → x = y := by
  intro x
  induction x using Val.ind with
  | h k n t l d ihl ihd =>
  intro y hx hy h
  obtain ⟨hx0, hx1, hx2, _⟩ := (SoundV_iff nm _).1 hx
  obtain ⟨hy0, hy1, hy2, _⟩ := (SoundV_iff nm _).1 hy
  have hk : k = y.k := by
    by_cases e : (Val.mk k n t l d).k = y.k
    · exact e
    · rw [cmpV_kind e] at h; exact absurd (cmpI_zero.1 h) e
  cases y with
  | mk k' n' t' l' d' =>
  simp only [Val.k, Val.n, Val.t, Val.l, Val.d] at *
  subst hk
  have h' : (if k = 3 ∨ k = 9 ∨ k = 10 then cmpI n n' else if k = 4 ∨ k = 7 ∨ k = 8 then cmpB t t' else if k = 6 then cmpL l l' else if k = 5 then cmpD d d' else 0) = 0 := (cmpV_K (x := .mk k n t l d) (y := .mk k n' t' l' d') rfl).symm.trans h
  have nil : ∀ {α : Type} {a b : List α}, a.length = 0 → b.length = 0 → a = b := fun ha hb => by rw [List.eq_nil_of_length_eq_zero ha, List.eq_nil_of_length_eq_zero hb]
  have emp : ∀ {a b : ByteArray}, a.size = 0 → b.size = 0 → a = b := fun {a b} ha hb => Go.WideShapes.bytes_inj (by
    rw [List.eq_nil_of_length_eq_zero (l := a.data.toList) (by simpa using ha), List.eq_nil_of_length_eq_zero (l := b.data.toList) (by simpa using hb)])
  obtain ⟨a1, a2, a3, a4, _⟩ := hx0
  obtain ⟨b1, b2, b3, b4, _⟩ := hy0
  split at h'
  · rename_i hi
    rw [cmpI_zero.1 h', emp (a := t) (b := t') (by omega) (by omega), nil (a := l) (b := l') (by omega) (by omega), nil (a := d) (b := d') (by omega) (by omega)]
  · split at h'
    · rename_i hi ht
      rw [show n = n' by omega, cmpB_zero.1 h', nil (a := l) (b := l') (by omega) (by omega), nil (a := d) (b := d') (by omega) (by omega)]
    · split at h'
      · rename_i hi ht h6
        rw [show n = n' by omega, emp (a := t) (b := t') (by omega) (by omega), nil (a := d) (b := d') (by omega) (by omega),
          cmpL_eq (fun a ha b hb hm => ihl a ha b (hx1 a ha) (hy1 b hm) hb) h']
      · split at h'
        · rename_i hi ht h6 h5
          rw [show n = n' by omega, emp (a := t) (b := t') (by omega) (by omega), nil (a := l) (b := l') (by omega) (by omega),
            cmpD_eq (fun a ha b hb hm => ihd a ha b.v (hx2 a ha) (hy2 b hm) hb) h']
        · rw [show n = n' by omega, emp (a := t) (b := t') (by omega) (by omega), nil (a := l) (b := l') (by omega) (by omega), nil (a := d) (b := d') (by omega) (by omega)]

end Go.Proofs.YtlmmgjgkmbmgpaaGreatDoor

/- Lists of half-open spans over a linear order, in plain words: normal forms and their uniqueness, merging, meeting, the rest. -/
namespace Go.Proofs.YtlmmgjgkmbmgpaaGreatDoor

/-- a comparison that is a total order, on the valid ones up to identity -/
structure Lin {α : Type} (cm : α → α → Int) (V : α → Prop) : Prop where
  anti : ∀ x y, cm y x = -cm x y
  tr : ∀ x y z, TR (cm x y) (cm y z) (cm x z)
  eq : ∀ x y, V x → V y → cm x y = 0 → x = y

section
variable {α : Type} {cm : α → α → Int} {V : α → Prop}
theorem Lin.self (H : Lin cm V) (x : α) : cm x x = 0 := by have := H.anti x x; omega

/-- a place lies in one of the spans -/
def inS (cm : α → α → Int) (a : α) (l : List (α × α)) : Prop := ∃ s ∈ l, cm s.1 a ≤ 0 ∧ cm a s.2 < 0
theorem inS_nil (a : α) : ¬ inS cm a [] := by rintro ⟨s, hs, _⟩; simp at hs
theorem inS_cons {a : α} {s : α × α} {l : List (α × α)} : inS cm a (s :: l) ↔ (cm s.1 a ≤ 0 ∧ cm a s.2 < 0) ∨ inS cm a l := by
  constructor
  · rintro ⟨t, ht, h⟩
    rcases List.mem_cons.1 ht with rfl | ht
    · exact .inl h
    · exact .inr ⟨t, ht, h⟩
  · rintro (h | ⟨t, ht, h⟩)
    · exact ⟨s, by simp, h⟩
    · exact ⟨t, by simp [ht], h⟩
theorem inS_app {a : α} {l m : List (α × α)} : inS cm a (l ++ m) ↔ inS cm a l ∨ inS cm a m := by
  induction l with
  | nil => simp only [List.nil_append]; exact ⟨.inr, fun h => h.resolve_left (inS_nil a)⟩
  | cons s r ih => rw [List.cons_append, inS_cons, inS_cons, ih, or_assoc]
theorem inS_one {a : α} {s : α × α} : inS cm a [s] ↔ (cm s.1 a ≤ 0 ∧ cm a s.2 < 0) := by rw [inS_cons]; exact ⟨fun h => h.resolve_right (inS_nil a), .inl⟩
theorem inS_perm {a : α} {l m : List (α × α)} (h : l.Perm m) : inS cm a l ↔ inS cm a m := by
  constructor
  · rintro ⟨s, hs, k⟩; exact ⟨s, h.subset hs, k⟩
  · rintro ⟨s, hs, k⟩; exact ⟨s, h.symm.subset hs, k⟩

/-- spans in normal form: none is empty, they ascend and do not touch -/
structure NF (cm : α → α → Int) (V : α → Prop) (l : List (α × α)) : Prop where
  ne : ∀ s ∈ l, cm s.1 s.2 < 0 ∧ V s.1 ∧ V s.2
  ord : l.Pairwise fun s t => cm s.2 t.1 < 0
theorem NF.nil : NF cm V [] := ⟨fun s hs => by simp at hs, .nil⟩
theorem NF.tail {s : α × α} {l : List (α × α)} (h : NF cm V (s :: l)) : NF cm V l := ⟨fun t ht => h.ne t (by simp [ht]), List.Pairwise.of_cons h.ord⟩
theorem NF.head {s : α × α} {l : List (α × α)} (h : NF cm V (s :: l)) {t : α × α} (ht : t ∈ l) : cm s.2 t.1 < 0 := List.rel_of_pairwise_cons h.ord ht

/-- a normal form is determined by what lies in it -/
theorem nf_unique (H : Lin cm V) : ∀ {l m : List (α × α)}, NF cm V l → NF cm V m → (∀ a, V a → (inS cm a l ↔ inS cm a m)) → l = m := by
  intro l
  induction l with
  | nil =>
    intro m _ hm h
    cases m with
    | nil => rfl
    | cons t q =>
      have ht := hm.ne t (by simp)
      exact absurd ((h t.1 ht.2.1).2 (inS_cons.2 (.inl ⟨by rw [H.self]; omega, ht.1⟩))) (inS_nil _)
  | cons s r ih =>
    intro m hl hm h
    cases m with
    | nil =>
      have hs := hl.ne s (by simp)
      exact absurd ((h s.1 hs.2.1).1 (inS_cons.2 (.inl ⟨by rw [H.self]; omega, hs.1⟩))) (inS_nil _)
    | cons t q =>
      have hs := hl.ne s (by simp)
      have ht := hm.ne t (by simp)
      have low : ∀ {s t : α × α} {r q : List (α × α)}, NF cm V (s :: r) → NF cm V (t :: q) → (inS cm s.1 (s :: r) → inS cm s.1 (t :: q)) → cm t.1 s.1 ≤ 0 := by
        intro s t r q hl hm h
        have hs := hl.ne s (by simp)
        rcases inS_cons.1 (h (inS_cons.2 (.inl ⟨by rw [H.self]; omega, hs.1⟩))) with k | ⟨u, hu, k⟩
        · exact k.1
        · have h1 := hm.head hu
          have h2 := (hm.ne t (by simp)).1
          have h3 := H.tr t.1 t.2 u.1 (by omega) (by omega)
          have h4 := H.tr t.1 u.1 s.1 (by omega) (by omega)
          omega
      have e1 : s.1 = t.1 := by
        have a1 := low hl hm (h s.1 hs.2.1).1
        have a2 := low hm hl (h t.1 ht.2.1).2
        have := H.anti s.1 t.1
        exact H.eq _ _ hs.2.1 ht.2.1 (by omega)
      have up : ∀ {s t : α × α} {r q : List (α × α)}, s.1 = t.1 → NF cm V (s :: r) → (inS cm s.2 (t :: q) → inS cm s.2 (s :: r)) → ¬ cm s.2 t.2 < 0 := by
        intro s t r q e hl h hlt
        have hs := hl.ne s (by simp)
        have := h (inS_cons.2 (.inl ⟨by rw [← e]; omega, hlt⟩))
        rcases inS_cons.1 this with k | ⟨u, hu, k⟩
        · have := H.self s.2; omega
        · have h1 := hl.head hu
          have := H.anti s.2 u.1
          omega
      have e2 : s.2 = t.2 := by
        have a1 := up e1 hl (h s.2 hs.2.2).2
        have a2 := up e1.symm hm (h t.2 ht.2.2).1
        have := H.anti s.2 t.2
        exact H.eq _ _ hs.2.2 ht.2.2 (by omega)
      obtain rfl : s = t := Prod.ext e1 e2
      congr 1
      refine ih hl.tail hm.tail fun a ha => ?_
      have half : ∀ {r q : List (α × α)}, NF cm V (s :: r) → (inS cm a (s :: r) → inS cm a (s :: q)) → inS cm a r → inS cm a q := by
        intro r q hl h hr
        rcases inS_cons.1 (h (inS_cons.2 (.inr hr))) with k | k
        · obtain ⟨u, hu, k2⟩ := hr
          have h1 := hl.head hu
          have h2 := H.tr s.2 u.1 a (by omega) k2.1
          have := H.anti a s.2
          omega
        · exact k
      exact ⟨half hl (h a ha).1, half hm (h a ha).2⟩

/-- one step of merging -/
def stepS (cm : α → α → Int) (c : List (α × α)) (s : α × α) : List (α × α) :=
  match c.getLast? with
  | none => c ++ [s]
  | some l => if cm l.2 s.1 < 0 then c ++ [s] else if cm l.2 s.2 < 0 then c.dropLast ++ [(l.1, s.2)] else c
def mergeS (cm : α → α → Int) (l : List (α × α)) : List (α × α) := l.foldl (stepS cm) []
theorem mergeS_snoc (l : List (α × α)) (s : α × α) : mergeS cm (l ++ [s]) = stepS cm (mergeS cm l) s := by unfold mergeS; rw [List.foldl_append]; rfl

/-- what merging keeps -/
structure MI (cm : α → α → Int) (V : α → Prop) (P c : List (α × α)) : Prop where
  nf : NF cm V c
  mem : ∀ a, inS cm a c ↔ inS cm a P
  len : c.length ≤ P.length
  low : ∀ l ∈ c, ∃ p ∈ P, l.1 = p.1
theorem pw_snoc {β : Type} {R : β → β → Prop} {l : List β} {a : β} : (l ++ [a]).Pairwise R ↔ l.Pairwise R ∧ ∀ x ∈ l, R x a := by
  rw [List.pairwise_append]
  constructor
  · rintro ⟨h1, _, h3⟩; exact ⟨h1, fun x hx => h3 x hx a (by simp)⟩
  · rintro ⟨h1, h2⟩; exact ⟨h1, by simp, fun x hx y hy => by simp at hy; subst hy; exact h2 x hx⟩
theorem MI.step (H : Lin cm V) {P c : List (α × α)} {s : α × α} (h : MI cm V P c) (hs : cm s.1 s.2 < 0 ∧ V s.1 ∧ V s.2) (hlo : ∀ p ∈ P, cm p.1 s.1 ≤ 0) : MI cm V (P ++ [s]) (stepS cm c s) := by
  rcases List.eq_nil_or_concat c with rfl | ⟨d, l, rfl⟩
  · have e : stepS cm [] s = [s] := rfl
    rw [e]
    refine ⟨⟨fun t ht => by simp at ht; subst ht; exact hs, by simp⟩, fun a => ?_, by simp, fun t ht => ⟨s, by simp, by simp at ht; rw [ht]⟩⟩
    rw [inS_app]
    exact ⟨.inr, fun k => k.resolve_left fun hp => inS_nil a ((h.mem a).2 hp)⟩
  · rw [List.concat_eq_append] at h ⊢
    have hlen := h.len
    simp only [List.length_append, List.length_cons, List.length_nil] at hlen
    have hl := h.nf.ne l (by simp)
    obtain ⟨hd, hdl⟩ := pw_snoc.1 h.nf.ord
    have hls : cm l.1 s.1 ≤ 0 := by
      obtain ⟨p, hp, e⟩ := h.low l (by simp)
      rw [e]; exact hlo p hp
    have e0 : (d ++ [l]).getLast? = some l := by simp
    unfold stepS
    rw [e0]
    simp only
    by_cases h1 : cm l.2 s.1 < 0
    · rw [if_pos h1]
      refine ⟨⟨fun t ht => ?_, pw_snoc.2 ⟨h.nf.ord, fun t ht => ?_⟩⟩, fun a => ?_, by simp; omega, fun t ht => ?_⟩
      · rcases List.mem_append.1 ht with ht | ht
        · exact h.nf.ne t ht
        · simp at ht; subst ht; exact hs
      · rcases List.mem_append.1 ht with ht | ht
        · have a1 := hdl t ht
          have a2 := H.tr t.2 l.1 l.2 (by omega) (by omega)
          have a3 := H.tr t.2 l.2 s.1 (by omega) (by omega)
          omega
        · simp at ht; subst ht; exact h1
      · rw [inS_app (l := d ++ [l]), inS_app (l := P), h.mem]
      · rcases List.mem_append.1 ht with ht | ht
        · obtain ⟨p, hp, e⟩ := h.low t ht; exact ⟨p, by simp [hp], e⟩
        · simp at ht; subst ht; exact ⟨t, by simp, rfl⟩
    · rw [if_neg h1]
      by_cases h2 : cm l.2 s.2 < 0
      · rw [if_pos h2, List.dropLast_concat]
        refine ⟨⟨fun t ht => ?_, pw_snoc.2 ⟨hd, hdl⟩⟩, fun a => ?_, by simp; omega, fun t ht => ?_⟩
        · rcases List.mem_append.1 ht with ht | ht
          · exact h.nf.ne t (by simp [ht])
          · simp at ht; subst ht
            have := H.tr l.1 l.2 s.2 (by omega) (by omega)
            exact ⟨by show cm l.1 s.2 < 0; omega, hl.2.1, hs.2.2⟩
        · rw [inS_app (l := d), inS_app (l := P), ← h.mem, inS_app (l := d), or_assoc]
          apply or_congr Iff.rfl
          rw [inS_one, inS_one, inS_one]
          simp only
          constructor
          · rintro ⟨k1, k2⟩
            by_cases k3 : cm a l.2 < 0
            · exact .inl ⟨k1, k3⟩
            · have := H.anti a l.2
              have := H.anti l.2 s.1
              have := H.tr s.1 l.2 a (by omega) (by omega)
              exact .inr ⟨by omega, k2⟩
          · rintro (⟨k1, k2⟩ | ⟨k1, k2⟩)
            · have := H.tr a l.2 s.2 (by omega) (by omega)
              exact ⟨k1, by omega⟩
            · have := H.tr l.1 s.1 a hls k1
              exact ⟨by omega, k2⟩
        · rcases List.mem_append.1 ht with ht | ht
          · obtain ⟨p, hp, e⟩ := h.low t (by simp [ht]); exact ⟨p, by simp [hp], e⟩
          · simp at ht; subst ht
            obtain ⟨p, hp, e⟩ := h.low l (by simp)
            exact ⟨p, by simp [hp], e⟩
      · rw [if_neg h2]
        refine ⟨h.nf, fun a => ?_, by simp; omega, fun t ht => ?_⟩
        · rw [inS_app (l := P), ← h.mem]
          refine ⟨.inl, fun k => k.elim id fun k => ?_⟩
          rw [inS_one] at k
          rw [inS_app, inS_one]
          have := H.tr l.1 s.1 a hls k.1
          have := H.anti s.2 l.2
          have := H.tr a s.2 l.2 (by omega) (by omega)
          exact .inr ⟨by omega, by omega⟩
        · obtain ⟨p, hp, e⟩ := h.low t ht; exact ⟨p, by simp [hp], e⟩
/-- merging a list that is sorted by its beginnings -/
theorem mergeS_ok (H : Lin cm V) {l : List (α × α)} (hne : ∀ s ∈ l, cm s.1 s.2 < 0 ∧ V s.1 ∧ V s.2) (hs : l.Pairwise fun s t => cm s.1 t.1 ≤ 0) : MI cm V l (mergeS cm l) := by
  have key : ∀ i, i ≤ l.length → MI cm V (l.take i) (mergeS cm (l.take i)) := by
    intro i
    induction i with
    | zero => intro _; exact ⟨NF.nil, fun a => Iff.rfl, by simp [mergeS], fun t ht => by simp [mergeS] at ht⟩
    | succ i ih =>
      intro hi
      have hx : l[i]? = some l[i] := List.getElem?_eq_getElem (by omega)
      rw [take_snoc' hx, mergeS_snoc]
      refine (ih (by omega)).step H (hne _ (List.getElem_mem _)) fun p hp => ?_
      have h2 : (l.take i ++ [l[i]]).Pairwise fun s t => cm s.1 t.1 ≤ 0 := by
        rw [← take_snoc' hx]
        exact hs.sublist (List.take_sublist _ _)
      exact (pw_snoc.1 h2).2 p hp
  have := key l.length (Nat.le_refl _)
  rwa [List.take_length] at this
theorem stepS_len (c : List (α × α)) (s : α × α) : (stepS cm c s).length ≤ c.length + 1 := by
  unfold stepS
  split
  · simp
  · split
    · simp
    · split
      · simp
      · omega
theorem mergeS_len (l : List (α × α)) : (mergeS cm l).length ≤ l.length := by
  have : ∀ c : List (α × α), (l.foldl (stepS cm) c).length ≤ c.length + l.length := by
    induction l with
    | nil => intro c; simp
    | cons s r ih =>
      intro c
      have h1 := ih (stepS cm c s)
      have h2 := stepS_len (cm := cm) c s
      simp only [List.foldl_cons, List.length_cons]
      omega
  simpa [mergeS] using this []

/-- the meeting of two normal forms, i and k spans passed -/
structure MeI (cm : α → α → Int) (V : α → Prop) (l m L R c : List (α × α)) : Prop where
  nf : NF cm V c
  mem : ∀ a, (inS cm a l ∧ inS cm a m) ↔ (inS cm a c ∨ (inS cm a L ∧ inS cm a R))
  up : ∀ p ∈ c, (∀ s ∈ L, cm p.2 s.1 < 0) ∨ (∀ t ∈ R, cm p.2 t.1 < 0)
def maxS (cm : α → α → Int) (a b : α) : α := if cm a b < 0 then b else a
def minS (cm : α → α → Int) (a b : α) : α := if cm b a < 0 then b else a
theorem maxS_le (H : Lin cm V) {a b x : α} : cm (maxS cm a b) x ≤ 0 ↔ cm a x ≤ 0 ∧ cm b x ≤ 0 := by
  unfold maxS
  split
  · rename_i h
    exact ⟨fun k => ⟨by have := H.tr a b x (by omega) k; omega, k⟩, fun k => k.2⟩
  · rename_i h
    have := H.anti a b
    exact ⟨fun k => ⟨k, by have := H.tr b a x (by omega) k; omega⟩, fun k => k.1⟩
theorem lt_minS (H : Lin cm V) {a b x : α} : cm x (minS cm a b) < 0 ↔ cm x a < 0 ∧ cm x b < 0 := by
  unfold minS
  split
  · rename_i h
    exact ⟨fun k => ⟨by have := H.tr x b a (by omega) (by omega); omega, k⟩, fun k => k.2⟩
  · rename_i h
    have := H.anti b a
    exact ⟨fun k => ⟨k, by have := H.tr x a b (by omega) (by omega); omega⟩, fun k => k.1⟩
theorem lt_maxS (H : Lin cm V) {a b x : α} (h : cm x a < 0 ∨ cm x b < 0) : cm x (maxS cm a b) < 0 := by
  unfold maxS
  split
  · rename_i k
    rcases h with h | h
    · have := H.tr x a b (by omega) (by omega); omega
    · exact h
  · rename_i k
    have := H.anti a b
    rcases h with h | h
    · exact h
    · have := H.tr x b a (by omega) (by omega); omega
theorem maxS_V {a b : α} (ha : V a) (hb : V b) : V (maxS cm a b) := by unfold maxS; split <;> assumption
theorem minS_V {a b : α} (ha : V a) (hb : V b) : V (minS cm a b) := by unfold minS; split <;> assumption
def addS (cm : α → α → Int) (c : List (α × α)) (u : α × α) : List (α × α) := if cm u.1 u.2 < 0 then c ++ [u] else c
theorem inS_addS (H : Lin cm V) {c : List (α × α)} {u : α × α} {a : α} : inS cm a (addS cm c u) ↔ inS cm a c ∨ (cm u.1 a ≤ 0 ∧ cm a u.2 < 0) := by
  unfold addS
  split
  · rw [inS_app, inS_one]
  · rename_i h
    refine ⟨.inl, fun k => k.elim id fun k => ?_⟩
    have := H.tr u.1 a u.2 k.1 (by omega)
    omega
theorem MeI.start {l m : List (α × α)} : MeI cm V l m l m [] := ⟨NF.nil, fun a => ⟨.inr, fun h => h.resolve_left (inS_nil a)⟩, fun p hp => by simp at hp⟩
theorem MeI.add (H : Lin cm V) {l m L R c : List (α × α)} {s t : α × α} (h : MeI cm V l m (s :: L) (t :: R) c) (hl : NF cm V (s :: L)) (hr : NF cm V (t :: R)) :
    NF cm V (addS cm c (maxS cm s.1 t.1, minS cm s.2 t.2)) := by
  have hs := hl.ne s (by simp)
  have ht := hr.ne t (by simp)
  unfold addS
  split
  · rename_i hu
    refine ⟨fun p hp => ?_, pw_snoc.2 ⟨h.nf.ord, fun p hp => ?_⟩⟩
    · rcases List.mem_append.1 hp with hp | hp
      · exact h.nf.ne p hp
      · simp at hp; subst hp
        exact ⟨hu, maxS_V hs.2.1 ht.2.1, minS_V hs.2.2 ht.2.2⟩
    · rcases h.up p hp with k | k
      · exact lt_maxS H (.inl (k s (by simp)))
      · exact lt_maxS H (.inr (k t (by simp)))
  · exact h.nf
theorem MeI.left (H : Lin cm V) {l m L R c : List (α × α)} {s t : α × α} (h : MeI cm V l m (s :: L) (t :: R) c) (hl : NF cm V (s :: L)) (hr : NF cm V (t :: R)) (hlt : cm s.2 t.2 < 0) :
    MeI cm V l m L (t :: R) (addS cm c (maxS cm s.1 t.1, minS cm s.2 t.2)) := by
  refine ⟨h.add H hl hr, fun a => ?_, fun p hp => ?_⟩
  · rw [h.mem, inS_addS H, inS_cons, inS_cons]
    simp only
    rw [maxS_le H, lt_minS H]
    constructor
    · rintro (k | ⟨k1 | k1, k2⟩)
      · exact .inl (.inl k)
      · rcases k2 with k2 | ⟨u, hu, k2⟩
        · exact .inl (.inr ⟨⟨k1.1, k2.1⟩, k1.2, k2.2⟩)
        · have := hr.head hu
          have := H.tr s.2 t.2 u.1 (by omega) (by omega)
          have := H.tr s.2 u.1 a (by omega) k2.1
          have := H.anti a s.2
          omega
      · exact .inr ⟨k1, k2⟩
    · rintro ((k | k) | k)
      · exact .inl k
      · exact .inr ⟨.inl ⟨k.1.1, k.2.1⟩, .inl ⟨k.1.2, k.2.2⟩⟩
      · exact .inr ⟨.inr k.1, k.2⟩
  · unfold addS at hp
    split at hp
    · rcases List.mem_append.1 hp with hp | hp
      · rcases h.up p hp with k | k
        · exact .inl fun u hu => k u (by simp [hu])
        · exact .inr k
      · simp at hp; subst hp
        refine .inl fun u hu => ?_
        have := hl.head hu
        show cm (minS cm s.2 t.2) u.1 < 0
        unfold minS
        split
        · have := H.anti s.2 t.2; omega
        · exact this
    · rcases h.up p hp with k | k
      · exact .inl fun u hu => k u (by simp [hu])
      · exact .inr k
theorem MeI.right (H : Lin cm V) {l m L R c : List (α × α)} {s t : α × α} (h : MeI cm V l m (s :: L) (t :: R) c) (hl : NF cm V (s :: L)) (hr : NF cm V (t :: R)) (hlt : ¬ cm s.2 t.2 < 0) :
    MeI cm V l m (s :: L) R (addS cm c (maxS cm s.1 t.1, minS cm s.2 t.2)) := by
  have hts := H.anti s.2 t.2
  refine ⟨h.add H hl hr, fun a => ?_, fun p hp => ?_⟩
  · rw [h.mem, inS_addS H, inS_cons, inS_cons]
    simp only
    rw [maxS_le H, lt_minS H]
    constructor
    · rintro (k | ⟨k1, k2 | k2⟩)
      · exact .inl (.inl k)
      · rcases k1 with k1 | ⟨u, hu, k1⟩
        · exact .inl (.inr ⟨⟨k1.1, k2.1⟩, k1.2, k2.2⟩)
        · have := hl.head hu
          have := H.tr t.2 s.2 u.1 (by omega) (by omega)
          have := H.tr t.2 u.1 a (by omega) k1.1
          have := H.anti a t.2
          omega
      · exact .inr ⟨k1, k2⟩
    · rintro ((k | k) | k)
      · exact .inl k
      · exact .inr ⟨.inl ⟨k.1.1, k.2.1⟩, .inl ⟨k.1.2, k.2.2⟩⟩
      · exact .inr ⟨k.1, .inr k.2⟩
  · unfold addS at hp
    split at hp
    · rcases List.mem_append.1 hp with hp | hp
      · rcases h.up p hp with k | k
        · exact .inl k
        · exact .inr fun u hu => k u (by simp [hu])
      · simp at hp; subst hp
        refine .inr fun u hu => ?_
        have := hr.head hu
        show cm (minS cm s.2 t.2) u.1 < 0
        unfold minS
        split
        · exact this
        · have := H.tr s.2 t.2 u.1 (by omega) (by omega); omega
    · rcases h.up p hp with k | k
      · exact .inl k
      · exact .inr fun u hu => k u (by simp [hu])
theorem MeI.done {l m L R c : List (α × α)} (h : MeI cm V l m L R c) (he : L = [] ∨ R = []) : NF cm V c ∧ ∀ a, inS cm a c ↔ inS cm a l ∧ inS cm a m := by
  refine ⟨h.nf, fun a => ?_⟩
  rw [h.mem]
  refine ⟨.inl, fun k => k.elim id fun k => ?_⟩
  rcases he with rfl | rfl
  · exact absurd k.1 (inS_nil a)
  · exact absurd k.2 (inS_nil a)

/-- the rest of a normal form, up to a place f -/
structure ReI (cm : α → α → Int) (V : α → Prop) (m0 : α) (n L : List (α × α)) (f : α) (c : List (α × α)) : Prop where
  vf : V f
  lo : cm m0 f ≤ 0
  mem : ∀ a, inS cm a c ↔ cm m0 a ≤ 0 ∧ cm a f < 0 ∧ ¬ inS cm a n
  sep : ∀ a, ¬ cm a f < 0 → (inS cm a n ↔ inS cm a L)
  gap : ∀ s ∈ L, cm f s.1 ≤ 0
theorem ReI.start (H : Lin cm V) {m0 : α} {n : List (α × α)} (hv : V m0) (hlo : ∀ s ∈ n, cm m0 s.1 ≤ 0) : ReI cm V m0 n n m0 [] := by
  refine ⟨hv, by rw [H.self]; omega, fun a => ?_, fun a _ => Iff.rfl, hlo⟩
  refine ⟨fun h => absurd h (inS_nil a), fun ⟨h1, h2, _⟩ => ?_⟩
  have := H.anti m0 a
  omega
theorem ReI.next (H : Lin cm V) {m0 f : α} {n L c : List (α × α)} {s : α × α} (h : ReI cm V m0 n (s :: L) f c) (hn : NF cm V (s :: L)) : ∀ c', (∀ a, inS cm a c' ↔ inS cm a c ∨ (cm f a ≤ 0 ∧ cm a s.1 < 0)) → ReI cm V m0 n L s.2 c' := by
  intro c' hc'
  have hs := hn.ne s (by simp)
  have hfs := h.gap s (by simp)
  have hf2 := H.tr f s.1 s.2 hfs (by omega)
  have hm2 := H.tr m0 f s.2 h.lo (by omega)
  refine ⟨hs.2.2, by omega, fun a => ?_, fun a ha => ?_, fun t ht => by have := hn.head ht; omega⟩
  · rw [hc', h.mem]
    constructor
    · rintro (⟨k1, k2, k3⟩ | ⟨k1, k2⟩)
      · have := H.tr a f s.2 (by omega) (by omega)
        exact ⟨k1, by omega, k3⟩
      · have := H.tr m0 f a h.lo k1
        have := H.tr a s.1 s.2 (by omega) (by omega)
        refine ⟨by omega, by omega, fun hin => ?_⟩
        have := H.anti a f
        rcases inS_cons.1 ((h.sep a (by omega)).1 hin) with k | ⟨u, hu, k⟩
        · have := H.anti a s.1; omega
        · have := hn.head hu
          have := H.tr s.2 u.1 a (by omega) k.1
          have := H.tr s.1 s.2 a (by omega) (by omega)
          have := H.anti a s.1
          omega
    · rintro ⟨k1, k2, k3⟩
      by_cases hf : cm a f < 0
      · exact .inl ⟨k1, hf, k3⟩
      · have := H.anti a f
        refine .inr ⟨by omega, ?_⟩
        have hnot : ¬ inS cm a (s :: L) := fun h' => k3 ((h.sep a hf).2 h')
        have h1 : ¬ (cm s.1 a ≤ 0 ∧ cm a s.2 < 0) := fun h' => hnot (inS_cons.2 (.inl h'))
        have := H.anti a s.1
        omega
  · have h1 : ¬ cm a f < 0 := fun h' => by
      have := H.tr a f s.2 (by omega) (by omega)
      omega
    rw [h.sep a h1, inS_cons]
    exact ⟨fun k => k.resolve_left fun k => ha k.2, .inr⟩
theorem ReI.done (H : Lin cm V) {m0 m1 f : α} {n c : List (α × α)} (h : ReI cm V m0 n [] f c) (hle : cm f m1 ≤ 0) : ∀ c', (∀ a, inS cm a c' ↔ inS cm a c ∨ (cm f a ≤ 0 ∧ cm a m1 < 0)) → ∀ a, inS cm a c' ↔ cm m0 a ≤ 0 ∧ cm a m1 < 0 ∧ ¬ inS cm a n := by
  intro c' hc' a
  rw [hc', h.mem]
  constructor
  · rintro (⟨k1, k2, k3⟩ | ⟨k1, k2⟩)
    · have := H.tr a f m1 (by omega) hle
      exact ⟨k1, by omega, k3⟩
    · have := H.tr m0 f a h.lo k1
      have := H.anti a f
      exact ⟨by omega, k2, fun k => inS_nil a ((h.sep a (by omega)).1 k)⟩
  · rintro ⟨k1, k2, k3⟩
    by_cases hf : cm a f < 0
    · exact .inl ⟨k1, hf, k3⟩
    · have := H.anti a f
      exact .inr ⟨by omega, k2⟩
/-- the normal form of the rest, as it grows -/
structure RnI (cm : α → α → Int) (V : α → Prop) (f : α) (c : List (α × α)) : Prop where
  nf : NF cm V c
  up : ∀ p ∈ c, cm p.2 f < 0
theorem RnI.start {m0 : α} : RnI cm V m0 [] := ⟨NF.nil, fun p hp => by simp at hp⟩
theorem RnI.add {f g : α} {c : List (α × α)} (h : RnI cm V f c) (hf : V f) (hg : V g) : NF cm V (addS cm c (f, g)) := by
  unfold addS
  split
  · rename_i hu
    refine ⟨fun p hp => ?_, pw_snoc.2 ⟨h.nf.ord, h.up⟩⟩
    rcases List.mem_append.1 hp with hp | hp
    · exact h.nf.ne p hp
    · simp at hp; subst hp; exact ⟨hu, hf, hg⟩
  · exact h.nf
theorem RnI.next (H : Lin cm V) {f g f' : α} {c : List (α × α)} (h : RnI cm V f c) (hf : V f) (hg : V g) (hfg : cm f g ≤ 0) (hlt : cm g f' < 0) : RnI cm V f' (addS cm c (f, g)) := by
  refine ⟨h.add hf hg, fun p hp => ?_⟩
  have key : ∀ p ∈ c, cm p.2 f' < 0 := fun p hp => by
    have := h.up p hp
    have := H.tr p.2 f g (by omega) hfg
    have := H.tr p.2 g f' (by omega) (by omega)
    omega
  unfold addS at hp
  split at hp
  · rcases List.mem_append.1 hp with hp | hp
    · exact key p hp
    · simp at hp; subst hp; exact hlt
  · exact key p hp
end

end Go.Proofs.YtlmmgjgkmbmgpaaGreatDoor

/- Places between values: the order of cuts, intervals as spans of cuts. -/
namespace Go.Proofs.YtlmmgjgkmbmgpaaGreatDoor

/-- a place: directly before a value, or directly after it -/
abbrev Cut := Val × Bool
def cmB (x y : Bool) : Int := if x = y then 0 else if y then -1 else 1
def cmC (a b : Cut) : Int := lex (cmpV a.1 b.1) (cmB a.2 b.2)
def VC1 (a : Cut) : Prop := validV a.1 = true
theorem cmB_anti (x y : Bool) : cmB y x = -cmB x y := by cases x <;> cases y <;> decide
theorem cmB_tr (x y z : Bool) : TR (cmB x y) (cmB y z) (cmB x z) := by cases x <;> cases y <;> cases z <;> (unfold TR; decide)
theorem cmB_zero {x y : Bool} : cmB x y = 0 ↔ x = y := by cases x <;> cases y <;> decide
theorem validV_parts {x : Val} (h : validV x = true) : x.size ≤ 1024 ∧ x.height ≤ 16 ∧ SoundV nameB x := by
  unfold validV at h
  simp only [Bool.and_eq_true, decide_eq_true_eq] at h
  exact ⟨h.1.1, h.1.2, soundB_iff.1 h.2⟩
theorem validV_of {x : Val} (h1 : x.size ≤ 1024) (h2 : x.height ≤ 16) (h3 : SoundV nameB x) : validV x = true := by
  unfold validV
  rw [decide_eq_true h1, decide_eq_true h2, soundB_true h3]
  rfl
theorem lin_cut : Lin cmC VC1 := by
  refine ⟨fun x y => lex_anti (cmpV_anti _ _) (cmB_anti _ _), fun x y z => TR.lx (cmpV_tr _ _ _) (cmB_tr _ _ _), fun x y hx hy h => ?_⟩
  have h' := lex_zero.1 h
  exact Prod.ext (cmpV_same (nm := nameB) x.1 y.1 (validV_parts hx).2.2 (validV_parts hy).2.2 h'.1) (cmB_zero.1 h'.2)
theorem cmC_rng (a b : Cut) : -1 ≤ cmC a b ∧ cmC a b ≤ 1 := lex_rng (cmpV_rng _ _) (by unfold cmB; split; omega; split <;> omega)

def vMin : Val := .mk 1 0 ByteArray.empty [] []
def vMax : Val := .mk 11 0 ByteArray.empty [] []
theorem valid_leaf {k : Int} (hk : k = 1 ∨ k = 11) : validV (.mk k 0 ByteArray.empty [] []) = true := by
  refine validV_of ?_ ?_ ?_
  · rw [size_parts]; unfold Val.parts; rw [if_neg (by show ¬ k = 6; omega), if_neg (by show ¬ k = 5; omega)]; simp [sizeL]
  · rw [height_parts]; unfold Val.parts; rw [if_neg (by show ¬ k = 6; omega), if_neg (by show ¬ k = 5; omega)]; simp [heightL]
  · refine (SoundV_iff _ _).2 ⟨?_, by simp [Val.l], by simp [Val.d], by simp [Val.d, NamesP]⟩
    rcases hk with rfl | rfl <;> simp [HeadP, Val.k, Val.n, Val.t, Val.l, Val.d]
theorem kind_range {x : Val} (h : validV x = true) : 1 ≤ x.k ∧ x.k ≤ 11 := by
  have := ((SoundV_iff _ _).1 (validV_parts h).2.2).1
  unfold HeadP at this
  omega
theorem min_le {a : Cut} (h : VC1 a) : cmC (vMin, false) a ≤ 0 := by
  have hk := kind_range h
  unfold cmC lex
  by_cases h1 : a.1.k = 1
  · have : cmpV vMin a.1 = 0 := cmpV_other (by rw [h1]; rfl) (by decide) (by decide) (by decide) (by decide) (by decide) (by decide) (by decide) (by decide)
    rw [this]
    simp
    unfold cmB
    split
    · omega
    · rename_i hne
      cases hb : a.2
      · exact absurd hb.symm hne
      · simp
  · have : cmpV vMin a.1 = cmpI 1 a.1.k := cmpV_kind (by show (1 : Int) ≠ a.1.k; omega)
    have h2 := cmpI_ways 1 a.1.k
    rw [this]
    split <;> omega
theorem le_max {a : Cut} (h : VC1 a) : cmC a (vMax, true) ≤ 0 := by
  have hk := kind_range h
  unfold cmC lex
  by_cases h1 : a.1.k = 11
  · have : cmpV a.1 vMax = 0 := cmpV_other (by rw [h1]; rfl) (by omega) (by omega) (by omega) (by omega) (by omega) (by omega) (by omega) (by omega)
    rw [this]
    simp
    unfold cmB
    split
    · omega
    · simp
  · have : cmpV a.1 vMax = cmpI a.1.k 11 := cmpV_kind (by show a.1.k ≠ (11 : Int); omega)
    have h2 := cmpI_ways a.1.k 11
    rw [this]
    split <;> omega

/-- an interval: lower end, upper end, are they in it -/
structure Iv where
  lo : Val
  hi : Val
  li : Bool
  hin : Bool
/-- its span -/
def Iv.sp (x : Iv) : Cut × Cut := ((x.lo, !x.li), (x.hi, x.hin))
/-- it is not empty -/
noncomputable def Iv.ne (x : Iv) : Bool := validV x.lo && validV x.hi && decide (cmC x.sp.1 x.sp.2 < 0)
/-- the spans of a list of intervals -/
noncomputable def spansL (l : List Iv) : List (Cut × Cut) := (l.filter Iv.ne).map Iv.sp
def ivOf (s : Cut × Cut) : Iv := ⟨s.1.1, s.2.1, !s.1.2, s.2.2⟩
theorem sp_ivOf (s : Cut × Cut) : (ivOf s).sp = s := by
  obtain ⟨⟨a, b⟩, c, d⟩ := s
  simp [ivOf, Iv.sp]
theorem ivOf_sp (x : Iv) : ivOf x.sp = x := by
  obtain ⟨a, b, c, d⟩ := x
  simp [ivOf, Iv.sp]
theorem ne_sp {x : Iv} (h : x.ne = true) : cmC x.sp.1 x.sp.2 < 0 ∧ VC1 x.sp.1 ∧ VC1 x.sp.2 := by
  unfold Iv.ne at h
  simp only [Bool.and_eq_true, decide_eq_true_eq] at h
  exact ⟨h.2, h.1.1, h.1.2⟩
theorem ne_of_sp {s : Cut × Cut} (h : cmC s.1 s.2 < 0 ∧ VC1 s.1 ∧ VC1 s.2) : (ivOf s).ne = true := by
  unfold Iv.ne
  rw [sp_ivOf]
  have h1 : validV (ivOf s).lo = true := h.2.1
  have h2 : validV (ivOf s).hi = true := h.2.2
  rw [h1, h2, decide_eq_true h.1]
  rfl
theorem spansL_ne {l : List Iv} : ∀ s ∈ spansL l, cmC s.1 s.2 < 0 ∧ VC1 s.1 ∧ VC1 s.2 := by
  intro s hs
  obtain ⟨x, hx, rfl⟩ := List.mem_map.1 hs
  exact ne_sp (List.mem_filter.1 hx).2
theorem spansL_app (l m : List Iv) : spansL (l ++ m) = spansL l ++ spansL m := by simp [spansL]
theorem spansL_snoc (l : List Iv) (x : Iv) : spansL (l ++ [x]) = if x.ne then spansL l ++ [x.sp] else spansL l := by
  rw [spansL_app]
  cases h : x.ne <;> simp [spansL, h]
/-- the spans of a normal form are itself -/
theorem spansL_of {n : List (Cut × Cut)} (h : ∀ s ∈ n, cmC s.1 s.2 < 0 ∧ VC1 s.1 ∧ VC1 s.2) : spansL (n.map ivOf) = n := by
  induction n with
  | nil => rfl
  | cons s r ih =>
    have e : spansL ((s :: r).map ivOf) = (ivOf s).sp :: spansL (r.map ivOf) := by
      simp [spansL, ne_of_sp (h s (by simp))]
    rw [e, sp_ivOf, ih fun t ht => h t (by simp [ht])]
/-- m is the normal form of a set of places -/
def IsNF (S : Cut → Prop) (m : List (Cut × Cut)) : Prop := NF cmC VC1 m ∧ ∀ a, inS cmC a m ↔ S a
theorem IsNF.unique {S T : Cut → Prop} {m n : List (Cut × Cut)} (h : IsNF S m) (k : IsNF T n) (e : ∀ a, VC1 a → (S a ↔ T a)) : m = n :=
  nf_unique lin_cut h.1 k.1 fun a ha => by rw [h.2, k.2]; exact e a ha
theorem inS_range {l : List (Cut × Cut)} (h : ∀ s ∈ l, cmC s.1 s.2 < 0 ∧ VC1 s.1 ∧ VC1 s.2) {a : Cut} (k : inS cmC a l) : cmC (vMin, false) a ≤ 0 ∧ cmC a (vMax, true) < 0 := by
  obtain ⟨s, hs, k1, k2⟩ := k
  have hv := h s hs
  have h1 := lin_cut.tr (vMin, false) s.1 a (min_le hv.2.1) k1
  have h2 := lin_cut.tr a s.2 (vMax, true) (by omega) (le_max hv.2.2)
  omega

end Go.Proofs.YtlmmgjgkmbmgpaaGreatDoor

/- Cuts, spans and intervals in memory. -/
namespace Go.Proofs.YtlmmgjgkmbmgpaaGreatDoor
open Go.RowKit

abbrev PC := PV × Bool
abbrev PS := PC × PC
abbrev PI := (PV × PV) × (Bool × Bool)
def recK (p : PC) : List Value := recV p.1 ++ [.bool p.2]
def recS (p : PS) : List Value := recK p.1 ++ recK p.2
def recI (p : PI) : List Value := recV p.1.1 ++ recV p.1.2 ++ [.bool p.2.1, .bool p.2.2]
theorem recK_length (p : PC) : (recK p).length = 6 := rfl
theorem recS_length (p : PS) : (recS p).length = 12 := rfl
theorem recI_length (p : PI) : (recI p).length = 12 := rfl
theorem recS_one (p : PS) : ∀ u ∈ recS p, u.oneCell' = true := by simp [recS, recK, recV, VC.list, Value.oneCell']
theorem recI_one (p : PI) : ∀ u ∈ recI p, u.oneCell' = true := by simp [recI, recV, VC.list, Value.oneCell']
def cutP (p : PC) : Cut := (p.1.2, p.2)
def spP (p : PS) : Cut × Cut := (cutP p.1, cutP p.2)
def ivP (p : PI) : Iv := ⟨p.1.1.2, p.1.2.2, p.2.1, p.2.2⟩
/-- the span of an interval in memory -/
def spanP (p : PI) : PS := ((p.1.1, !p.2.1), (p.1.2, p.2.2))
theorem spanP_sp (p : PI) : spP (spanP p) = (ivP p).sp := rfl
abbrev aggK (p : PC) : Value := .agg #[.int .i64 p.1.1.k, .int .i64 p.1.1.n, .string p.1.1.t, .slice p.1.1.LA p.1.1.ln p.1.1.lc, .slice p.1.1.DA p.1.1.dn p.1.1.dc, .bool p.2]
abbrev aggS (p : PS) : Value := .agg #[.int .i64 p.1.1.1.k, .int .i64 p.1.1.1.n, .string p.1.1.1.t, .slice p.1.1.1.LA p.1.1.1.ln p.1.1.1.lc, .slice p.1.1.1.DA p.1.1.1.dn p.1.1.1.dc, .bool p.1.2, .int .i64 p.2.1.1.k, .int .i64 p.2.1.1.n, .string p.2.1.1.t, .slice p.2.1.1.LA p.2.1.1.ln p.2.1.1.lc, .slice p.2.1.1.DA p.2.1.1.dn p.2.1.1.dc, .bool p.2.2]
abbrev aggI (p : PI) : Value := .agg #[.int .i64 p.1.1.1.k, .int .i64 p.1.1.1.n, .string p.1.1.1.t, .slice p.1.1.1.LA p.1.1.1.ln p.1.1.1.lc, .slice p.1.1.1.DA p.1.1.1.dn p.1.1.1.dc, .int .i64 p.1.2.1.k, .int .i64 p.1.2.1.n, .string p.1.2.1.t, .slice p.1.2.1.LA p.1.2.1.ln p.1.2.1.lc, .slice p.1.2.1.DA p.1.2.1.dn p.1.2.1.dc, .bool p.2.1, .bool p.2.2]
abbrev arrC (p : PC) : Array Value := #[.int .i64 p.1.1.k, .int .i64 p.1.1.n, .string p.1.1.t, .slice p.1.1.LA p.1.1.ln p.1.1.lc, .slice p.1.1.DA p.1.1.dn p.1.1.dc, .bool p.2]
abbrev arrS (p : PS) : Array Value := #[.int .i64 p.1.1.1.k, .int .i64 p.1.1.1.n, .string p.1.1.1.t, .slice p.1.1.1.LA p.1.1.1.ln p.1.1.1.lc, .slice p.1.1.1.DA p.1.1.1.dn p.1.1.1.dc, .bool p.1.2, .int .i64 p.2.1.1.k, .int .i64 p.2.1.1.n, .string p.2.1.1.t, .slice p.2.1.1.LA p.2.1.1.ln p.2.1.1.lc, .slice p.2.1.1.DA p.2.1.1.dn p.2.1.1.dc, .bool p.2.2]
abbrev arrI (p : PI) : Array Value := #[.int .i64 p.1.1.1.k, .int .i64 p.1.1.1.n, .string p.1.1.1.t, .slice p.1.1.1.LA p.1.1.1.ln p.1.1.1.lc, .slice p.1.1.1.DA p.1.1.1.dn p.1.1.1.dc, .int .i64 p.1.2.1.k, .int .i64 p.1.2.1.n, .string p.1.2.1.t, .slice p.1.2.1.LA p.1.2.1.ln p.1.2.1.lc, .slice p.1.2.1.DA p.1.2.1.dn p.1.2.1.dc, .bool p.2.1, .bool p.2.2]
/-- a cut lies at an address -/
def CAt (w : World) (b off : Nat) (p : PC) : Prop := VAt w b off p.1.1 ∧ w.cell? ⟨b, off + 5, none⟩ = some (.bool p.2)
def SAt (w : World) (b off : Nat) (p : PS) : Prop := CAt w b off p.1 ∧ CAt w b (off + 6) p.2
def IAt (w : World) (b off : Nat) (p : PI) : Prop := VAt w b off p.1.1.1 ∧ VAt w b (off + 5) p.1.2.1 ∧ w.cell? ⟨b, off + 10, none⟩ = some (.bool p.2.1) ∧ w.cell? ⟨b, off + 11, none⟩ = some (.bool p.2.2)
section
variable {w w' : World} {b off : Nat}
theorem cat_of {p : PC} (h : ∀ (j : Nat) (v : Value), (recK p)[j]? = some v → w.cell? ⟨b, off + j, none⟩ = some v) : CAt w b off p :=
  ⟨⟨h 0 _ rfl, h 1 _ rfl, h 2 _ rfl, h 3 _ rfl, h 4 _ rfl⟩, h 5 _ rfl⟩
theorem sat_of {p : PS} (h : ∀ (j : Nat) (v : Value), (recS p)[j]? = some v → w.cell? ⟨b, off + j, none⟩ = some v) : SAt w b off p :=
  ⟨⟨⟨h 0 _ rfl, h 1 _ rfl, h 2 _ rfl, h 3 _ rfl, h 4 _ rfl⟩, h 5 _ rfl⟩, ⟨⟨h 6 _ rfl, h 7 _ rfl, h 8 _ rfl, h 9 _ rfl, h 10 _ rfl⟩, h 11 _ rfl⟩⟩
theorem iat_of {p : PI} (h : ∀ (j : Nat) (v : Value), (recI p)[j]? = some v → w.cell? ⟨b, off + j, none⟩ = some v) : IAt w b off p :=
  ⟨⟨h 0 _ rfl, h 1 _ rfl, h 2 _ rfl, h 3 _ rfl, h 4 _ rfl⟩, ⟨h 5 _ rfl, h 6 _ rfl, h 7 _ rfl, h 8 _ rfl, h 9 _ rfl⟩, h 10 _ rfl, h 11 _ rfl⟩
theorem CAt.of_blk {t : TypeId} {p : PC} (h : Blk w b t (arrC p)) : CAt w b 0 p := cat_of fun j v hj => by rw [Nat.zero_add, h.cell, ← Array.getElem?_toList]; exact hj
theorem SAt.of_blk {t : TypeId} {p : PS} (h : Blk w b t (arrS p)) : SAt w b 0 p := sat_of fun j v hj => by rw [Nat.zero_add, h.cell, ← Array.getElem?_toList]; exact hj
theorem IAt.of_blk {t : TypeId} {p : PI} (h : Blk w b t (arrI p)) : IAt w b 0 p := iat_of fun j v hj => by rw [Nat.zero_add, h.cell, ← Array.getElem?_toList]; exact hj
theorem CAt.keep {p : PC} (h : CAt w b off p) (hb : w'.heap[b]? = w.heap[b]?) : CAt w' b off p := ⟨h.1.keep hb, (World.cell?_of_block (w := w) (a := ⟨b, off + 5, none⟩) hb).trans h.2⟩
theorem SAt.keep {p : PS} (h : SAt w b off p) (hb : w'.heap[b]? = w.heap[b]?) : SAt w' b off p := ⟨h.1.keep hb, h.2.keep hb⟩
theorem IAt.keep {p : PI} (h : IAt w b off p) (hb : w'.heap[b]? = w.heap[b]?) : IAt w' b off p :=
  ⟨h.1.keep hb, h.2.1.keep hb, (World.cell?_of_block (w := w) (a := ⟨b, off + 10, none⟩) hb).trans h.2.2.1, (World.cell?_of_block (w := w) (a := ⟨b, off + 11, none⟩) hb).trans h.2.2.2⟩
end

def okC (w : World) (p : PC) : Prop := RW w p.1.1 p.1.2
def okS (w : World) (p : PS) : Prop := okC w p.1 ∧ okC w p.2
def okI (w : World) (p : PI) : Prop := RW w p.1.1.1 p.1.1.2 ∧ RW w p.1.2.1 p.1.2.2
section
variable {w w' : World}
theorem okC.step {p : PC} (h : okC w p) (hb : Below w.heap.size w w') : okC w' p := RV.step h hb
theorem okS.step {p : PS} (h : okS w p) (hb : Below w.heap.size w w') : okS w' p := ⟨h.1.step hb, h.2.step hb⟩
theorem okI.step {p : PI} (h : okI w p) (hb : Below w.heap.size w w') : okI w' p := ⟨h.1.step hb, h.2.step hb⟩
theorem okI.span {p : PI} (h : okI w p) : okS w (spanP p) := ⟨h.1, h.2⟩

/-- a slice of spans -/
structure SS (w : World) (A : Option Addr) (n c : Nat) (xs : List PS) : Prop where
  sr : SR 12 recS w A n c xs
  sz : n * 176 ≤ reach
  ok : ∀ x ∈ xs, okS w x
/-- a slice of intervals -/
structure SI (w : World) (A : Option Addr) (n c : Nat) (xs : List PI) : Prop where
  sr : SR 12 recI w A n c xs
  sz : n * 168 ≤ reach
  ok : ∀ x ∈ xs, okI w x
variable {A : Option Addr} {n c : Nat}
theorem SS.step {xs : List PS} (h : SS w A n c xs) (hb : Below w.heap.size w w') : SS w' A n c xs := ⟨h.sr.step hb, h.sz, fun x hx => (h.ok x hx).step hb⟩
theorem SI.step {xs : List PI} (h : SI w A n c xs) (hb : Below w.heap.size w w') : SI w' A n c xs := ⟨h.sr.step hb, h.sz, fun x hx => (h.ok x hx).step hb⟩
theorem SS.at {xs : List PS} (h : SS w A n c xs) {i : Nat} {p : PS} (hi : xs[i]? = some p) : ∃ b off, A = some ⟨b, off, none⟩ ∧ b < w.heap.size ∧ SAt w b (off + i * 12) p ∧ okS w p := by
  have hn : 0 < n := by have := (List.getElem?_eq_some_iff.1 hi).1; have := h.sr.ln; omega
  obtain ⟨b, off, e, hb, hel⟩ := h.sr.el hn
  exact ⟨b, off, e, hb, sat_of fun j v hj => hel i p hi j v hj, h.ok p (List.mem_of_getElem? hi)⟩
theorem SI.at {xs : List PI} (h : SI w A n c xs) {i : Nat} {p : PI} (hi : xs[i]? = some p) : ∃ b off, A = some ⟨b, off, none⟩ ∧ b < w.heap.size ∧ IAt w b (off + i * 12) p ∧ okI w p := by
  have hn : 0 < n := by have := (List.getElem?_eq_some_iff.1 hi).1; have := h.sr.ln; omega
  obtain ⟨b, off, e, hb, hel⟩ := h.sr.el hn
  exact ⟨b, off, e, hb, iat_of fun j v hj => hel i p hi j v hj, h.ok p (List.mem_of_getElem? hi)⟩
theorem SS.of_own {base : Nat} {t : TypeId} {v : Value} {xs : List PS} (h : w.ownsRow base t 12 v n (flat recS xs)) (hl : xs.length = n) (hz : n * 176 ≤ reach) (hr : ∀ p ∈ xs, okS w p) : ∃ A c, v = .slice A n c ∧ SS w A n c xs := by
  obtain ⟨A, c, rfl, hs⟩ := SR.of_own recS_length h hl
  exact ⟨A, c, rfl, hs, hz, hr⟩
theorem SI.of_own {base : Nat} {t : TypeId} {v : Value} {xs : List PI} (h : w.ownsRow base t 12 v n (flat recI xs)) (hl : xs.length = n) (hz : n * 168 ≤ reach) (hr : ∀ p ∈ xs, okI w p) : ∃ A c, v = .slice A n c ∧ SI w A n c xs := by
  obtain ⟨A, c, rfl, hs⟩ := SR.of_own recI_length h hl
  exact ⟨A, c, rfl, hs, hz, hr⟩
end
theorem info_span : (Tryz.prog.info? 210).map (fun i => (i.zero, i.size, i.bytes)) = some (some (aggS (((VC.zero, Val.zero), false), ((VC.zero, Val.zero), false))), 12, 176) := by kernel_rfl
theorem info_interval : (Tryz.prog.info? 156).map (fun i => (i.zero, i.size, i.bytes)) = some (some (aggI (((VC.zero, Val.zero), (VC.zero, Val.zero)), (false, false))), 12, 168) := by kernel_rfl

end Go.Proofs.YtlmmgjgkmbmgpaaGreatDoor
