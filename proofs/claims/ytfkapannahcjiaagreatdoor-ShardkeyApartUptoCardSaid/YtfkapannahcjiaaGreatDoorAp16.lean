/- Parts of the proof, joined: EncKey, EncKey2, CrcPure, Crc, ShCode, ShEnc, ShEncR, ShOrdPure, PrOrd, RgGood, RgKeys, SortPure. -/
import Derived.Test.YtfkapannahcjiaaGreatDoorAp15
import Derived.Test.YtfkapannahcjiaaGreatDoorAp7
import Derived.Test.YtfkapannahcjiaaGreatDoorAp1
import Derived.Test.YtfkapannahcjiaaGreatDoorAp2
import Derived.Test.YtfkapannahcjiaaGreatDoorAp14
import Derived.Test.YtfkapannahcjiaaGreatDoorAp3
import Derived.Test.YtfkapannahcjiaaGreatDoorAp13
import Derived.Test.YtfkapannahcjiaaGreatDoorAp4
import Derived.Laws.Concat
/- keyenc.allowed, the reference's missing, and both Encodes where all is ascending. -/
namespace Go.Proofs.YtfkapannahcjiaaGreatDoor
open Go.RowKit

theorem size0 (t : ByteArray) : (t.toList == []) = decide (t.size = 0) := by
  rw [ByteArray.toList_eq, ← dsize]
  cases t.data.toList with
  | nil => rfl
  | cons a r => simp

theorem beq0 (n : Nat) : ((n : Int) == 0) = decide (n = 0) := by
  by_cases h : n = 0
  · rw [h]; rfl
  · rw [decide_eq_false h]
    exact beq_eq_false_iff_ne.2 (by omega)

set_option maxRecDepth 100000 in
set_option maxHeartbeats 1000000 in
theorem allowed_any (x : Val) (c : VC) (w : World) (hT : Tabs w) (h : RW w c x) :
    Calls Tryz.prog 91 #[c.val] w fun e w' => e = .returned (.bool (allowB x)) ∧ Below w.heap.size w w' := by
  have ho := h.open
  have hvk : x.k = 0 → validV x = false := fun e => by
    cases hv : validV x
    · rfl
    · simp only [validV, Bool.and_eq_true] at hv
      have := ((SoundV_iff nameB x).1 (soundB_iff.1 hv.2)).1.kind
      omega
  have B0 : Hid (Blk (w.alloc (Obj.cells c.arr 29)) w.heap.size 29 c.arr) := Blk.new_at rfl
  have BE : Hid (Below w.heap.size w (w.alloc (Obj.cells c.arr 29))) := (Below.refl _ _).alloc (Nat.le_refl _) _
  have HV := Lib.hid fun (w1 : World) (hb : Below w.heap.size w w1) => valid_any x c w1 (hT.step hb) (h.step hb)
  have hk := ho.k
  have hn := ho.n
  have ht := ho.t
  have hl := ho.ln
  have hd := ho.dn
  have HK := Lib.hid (And.intro hk (And.intro hn (And.intro ht (And.intro hl (And.intro hd hvk)))))
  clear hT h ho hk hn ht hl hd hvk
  go_enter Tryz.func91, Tryz.ntmps91
  go_upto_region 1 with fail
  change (Code.region 1 _ _).wp _ _ _ (w.alloc (Obj.cells c.arr 29))
  generalize w.alloc (Obj.cells c.arr 29) = wa at *
  obtain ⟨b0, b1, b2, b3, b4⟩ := VAt.of_blk B0.out
  simp only [Nat.zero_add] at b0 b1 b2 b3 b4
  by_cases h0 : c.k = 0
  · obtain ⟨hk, hn, ht, hl, hd, hvk⟩ := HK.out
    have hva := hvk (by rw [← hk]; exact h0)
    have HA : Hid (allowB x = (decide (c.n = 0) && (decide (c.t.size = 0) && (decide (c.ln = 0) && decide (c.dn = 0))))) := by
      unfold Hid allowB missB
      rw [hva, ← hk, ← hn, ← ht, ← hl, ← hd, decide_eq_true h0]
      simp
    have hsz := size0 c.t
    have P0 : ∀ q : BW wa, q.val.cell? ⟨w.heap.size, 0, none⟩ = some (.int .i64 c.k) := fun q => q.cell b0
    have P1 : ∀ q : BW wa, q.val.cell? ⟨w.heap.size, 1, none⟩ = some (.int .i64 c.n) := fun q => q.cell b1
    have P2 : ∀ q : BW wa, q.val.cell? ⟨w.heap.size, 2, none⟩ = some (.string c.t) := fun q => q.cell b2
    have P3 : ∀ q : BW wa, q.val.cell? ⟨w.heap.size, 3, none⟩ = some (.slice c.LA c.ln c.lc) := fun q => q.cell b3
    have P4 : ∀ q : BW wa, q.val.cell? ⟨w.heap.size, 4, none⟩ = some (.slice c.DA c.dn c.dc) := fun q => q.cell b4
    clear hk hn ht hl hd hva hvk
    go_upto_region 2 with fail
    by_cases h1 : c.n = 0
    · by_cases h2 : c.t.size = 0
      · have h2b : (c.t.toList == []) = true := by rw [hsz, decide_eq_true h2]
        by_cases h3 : c.ln = 0
        · go_wp2_with fail
          go_ret
          exact ⟨by rw [HA.out]; simp [h1, h2, h3, beq0], BE.out⟩
        · go_wp2_with fail
          go_ret
          exact ⟨by rw [HA.out]; simp [h1, h2, h3], BE.out⟩
      · have h2b : (c.t.toList == []) = false := by rw [hsz, decide_eq_false h2]
        go_wp2_with fail
        go_ret
        exact ⟨by rw [HA.out]; simp [h1, h2], BE.out⟩
    · go_wp2_with fail
      go_ret
      exact ⟨by rw [HA.out]; simp [h1], BE.out⟩
  · obtain ⟨hk, hn, ht, hl, hd, hvk⟩ := HK.out
    have h0b : (c.k == 0) = false := by simpa using h0
    have HA : Hid (allowB x = validV x) := by
      unfold Hid allowB missB
      rw [← hk, decide_eq_false h0]
      rfl
    clear hk hn ht hl hd hvk
    go_wp2_with fail
    refine (HV.out wa BE.out).mono ?_
    rintro e w1 ⟨rfl, hb⟩
    have CE := Lib.hid (BE.out.step' hb)
    clear b0 b1 b2 b3 b4 hb HV B0
    go_wp2_with fail
    go_ret
    exact ⟨by rw [HA.out]; rfl, CE.out⟩

/-- all of a list may be encoded -/
noncomputable def allowsB (l : List Val) : Bool := l.all allowB
/-- what an Encode hands back -/
noncomputable def keyR (l : List Val) : ByteArray × Int := if allowsB l then (strOfNums (encAll l), 0) else (ByteArray.empty, 8)
theorem keyR_yes {l : List Val} (h : allowsB l = true) : keyR l = (strOfNums (encAll l), 0) := if_pos h
theorem keyR_no {l : List Val} {i : Nat} {y : Val} (hy : l[i]? = some y) (h : allowB y = false) : keyR l = (ByteArray.empty, 8) := by
  have : allowsB l = false := by
    unfold allowsB
    rw [List.all_eq_false]
    exact ⟨y, List.mem_of_getElem? hy, by rw [h]; decide⟩
  unfold keyR
  rw [this]
  rfl
theorem allows_snoc {l : List Val} {i : Nat} {y : Val} (hy : l[i]? = some y) (ha : allowsB (l.take i) = true) (h : allowB y = true) : allowsB (l.take (i + 1)) = true := by
  unfold allowsB at *
  rw [take_snoc' hy, List.all_append, ha]
  simp [h]
theorem encAll_len {l : List Val} (h : allowsB l = true) : (encAll l).length ≤ 8500000 * l.length := by
  induction l with
  | nil => simp [encAll]
  | cons a r ih =>
    have e : encAll (a :: r) = encV a ++ encAll r := rfl
    unfold allowsB at h
    rw [List.all_cons, Bool.and_eq_true] at h
    have h1 := (allow_enc h.1).2
    have h2 := ih h.2
    rw [e, List.length_append, List.length_cons]
    omega

end Go.Proofs.YtfkapannahcjiaaGreatDoor



/- The contract of keyenc.Encode where all is ascending. -/
namespace Go.Proofs.YtfkapannahcjiaaGreatDoor
open Go.RowKit

def recX (b : Bool) : List Value := [.bool b]
theorem own_str {w : World} {base m : Nat} {v : Value} {xs : List Int} (h : w.ownsRow base 5 1 v m (bytesC xs)) (hm : m = xs.length) : (convert 108 9 v).run Tryz.prog w = .ok (.string (strOfNums xs)) w := by
  rcases h.2 with ⟨rfl, rfl⟩ | ⟨g, cap, cur, rfl, _⟩
  · have : xs = [] := List.eq_nil_of_length_eq_zero hm.symm
    subst this
    exact run_convert_bytes_nil (P := Tryz.prog) w 108 5 Tryz.underlying108 Tryz.underlying5 0 0 9 Tryz.underlying9
  · refine run_convert_bytes_arg (P := Tryz.prog) w 108 5 Tryz.underlying108 Tryz.underlying5 g 0 m cap xs hm.symm (fun i hi => ?_) 9 Tryz.underlying9
    have hx : xs[i]? = some (xs.getD i 0) := by rw [List.getD_eq_getElem?_getD, List.getElem?_eq_getElem (by omega)]; rfl
    have := h.cells (g := g) rfl i (.int .u8 (xs.getD i 0)) (by unfold bytesC; rw [List.getElem?_map, hx]; rfl)
    rwa [addr_add] at this

structure EkI (w : World) (v : Value) (m : Nat) (l : List Int) (wr : World) : Prop where
  own : wr.ownsRow w.heap.size 5 1 v m (bytesC l)
  ln : m = l.length
  bel : Below w.heap.size w wr
theorem EkI.step {w wr w' : World} {v : Value} {m : Nat} {l : List Int} (h : EkI w v m l wr) (hb : Below wr.heap.size wr w') : EkI w v m l w' := ⟨own_step h.own hb, h.ln, h.bel.step' hb⟩
theorem EkI.call {w wr w' : World} {v : Value} {m : Nat} {l l' : List Int} {e : Ending} (h : EkI w v m l wr) (ha : AppOk w.heap.size v l' wr e w') : ∃ v', e = .returned v' ∧ EkI w v' l'.length l' w' := by
  obtain ⟨v', he, ho, hg, hb⟩ := ha
  exact ⟨v', he, ho, rfl, h.bel.grown hg h.bel.size fun g hg' => own_ge h.own g hg'⟩

set_option maxRecDepth 100000 in
set_option maxHeartbeats 2000000 in
theorem encode_any (ps : List PV) (A B : Option Addr) (n c bc : Nat) (w : World) (hT : Tabs w) (h : SL (fun _ => True) w A n c ps) (hd : SR 1 recX w B n bc (List.replicate n false)) (hn : n ≤ 10) :
    Calls Tryz.prog 39 #[.slice A n c, .slice B n bc] w fun e w' => e = .returned (.tuple #[.string (keyR (ps.map Prod.snd)).1, .int .i64 (keyR (ps.map Prod.snd)).2]) ∧ Below w.heap.size w w' := by
  have HT := Lib.hid hT
  have H := Lib.hid h
  have HD := Lib.hid hd
  have HL : Hid (n = ps.length) := h.sr.ln
  clear hT h hd
  have I0 : Hid (EkI w (.slice none 0 0) 0 [] w) := ⟨own_nil _ _ _ _, rfl, Below.refl _ _⟩
  go_enter Tryz.func39, Tryz.ntmps39
  go_upto_region 5 with fail
  go_loopw [6, 7, 8, 9, 10, 18] (fun u6 _ _ _ _ u18 wr => ∃ i m : Nat, i ≤ n ∧ u18 = .int .i64 i ∧ allowsB ((ps.map Prod.snd).take i) = true ∧ EkI w u6 m (encAll ((ps.map Prod.snd).take i)) wr) (fun _ _ _ _ _ u18 _ => n - (intOf u18).toNat)
  case atStart => exact ⟨0, 0, Nat.zero_le _, rfl, rfl, I0.out⟩
  case round =>
    obtain ⟨i, m, hi, rfl, hal, J⟩ := hrel
    have J2 := Lib.hid J
    have HAL := Lib.hid hal
    have hmb : m ≤ 85000000 := by
      have h1 := J.ln
      have h2 := encAll_len hal
      have h3 : ((ps.map Prod.snd).take i).length ≤ i := List.length_take_le _ _
      omega
    clear J hal I0
    obtain ⟨Am, cm, hvm, hlm⟩ := own_slice J2.out.own
    subst hvm
    by_cases hlt : i < n
    · obtain ⟨p, hp⟩ : ∃ p, ps[i]? = some p := ⟨_, List.getElem?_eq_getElem (by have := HL.out; omega)⟩
      obtain ⟨b, off, hA, _, hat, hrv⟩ := H.out.vat hp
      subst hA
      have hpl : (ps.map Prod.snd)[i]? = some p.2 := by rw [List.getElem?_map, hp]; rfl
      obtain ⟨q0, q1, q2, q3, q4⟩ := hat.step J2.out.bel
      have hbw : b < wr.heap.size := World.block_lt_of_cell? wr _ q0
      have HR := Lib.hid hrv.lt
      have HPL := Lib.hid hpl
      have i0' : (0 : Int) ≤ (i : Int) := by omega
      have i1' : (i : Int) < (n : Int) := by omega
      clear hp hat hrv hpl
      go_upto_region 7 with fail
      change (Code.region 7 _ _).wp _ _ _ (wr.alloc (Obj.cells p.1.arr 29))
      have JB : Hid (Blk (wr.alloc (Obj.cells p.1.arr 29)) wr.heap.size 29 p.1.arr) := Blk.new_at rfl
      have J3 := Lib.hid (J2.out.step ((Below.refl wr.heap.size wr).alloc (Nat.le_refl _) (Obj.cells p.1.arr 29)))
      have NE : (Value.slice Am m cm).ownBlock ≠ some wr.heap.size := fun e => absurd (own_lt J2.out.own e) (by omega)
      generalize wr.alloc (Obj.cells p.1.arr 29) = wa at *
      generalize wr.heap.size = ga at *
      clear q0 q1 q2 q3 q4 J2
      obtain ⟨q0, q1, q2, q3, q4⟩ := VAt.of_blk JB.out
      simp only [Nat.zero_add] at q0 q1 q2 q3 q4
      have HAW := Lib.hid (allowed_any p.2 p.1 wa (HT.out.step J3.out.bel) ((HR.out.keepG fun b hb _ => ⟨trivial, J3.out.bel.block b hb.2⟩)))
      cases hA : allowB p.2
      · have HK := Lib.hid (keyR_no HPL.out hA)
        rw [hA] at HAW
        clear hA
        go_wp2_with fail
        refine HAW.out.mono ?_
        rintro e w1 ⟨rfl, hb⟩
        have J4 := Lib.hid (J3.out.step hb)
        clear q0 q1 q2 q3 q4 hb HAW J3 JB
        go_wp2_with fail
        go_ret2
        exact ⟨by rw [HK.out]; rfl, J4.out.bel⟩
      · have HSN := Lib.hid (encAll_snoc HPL.out)
        have HAS := Lib.hid (allows_snoc HPL.out HAL.out hA)
        have HE1 := Lib.hid (allow_enc hA)
        rw [hA] at HAW
        clear hA
        go_wp2_with fail
        refine HAW.out.mono ?_
        rintro e w1 ⟨rfl, hb⟩
        have J4 := Lib.hid (J3.out.step hb)
        have JB2 := Lib.hid (JB.out.step hb)
        clear q0 q1 q2 q3 q4 hb HAW J3 JB
        obtain ⟨q0, q1, q2, q3, q4⟩ := VAt.of_blk JB2.out
        simp only [Nat.zero_add] at q0 q1 q2 q3 q4
        have hap := app_any p.2 p.1 (.slice Am m cm) (encAll ((ps.map Prod.snd).take i)) w.heap.size m w1 (HR.out.keepG fun b hb _ => ⟨hb.2, J4.out.bel.block b hb.2⟩) HE1.out.1 J4.out.bel.size J4.out.ln J4.out.own (by have h1 := J4.out.ln; have h2 := HE1.out.2; omega)
        have HAP := Lib.hid hap
        clear hap
        go_upto_region 10 with fail
        go_wp2_with fail
        refine HAP.out.mono ?_
        rintro e w2 hok
        obtain ⟨v3, rfl, hJ5⟩ := J4.out.call hok
        rw [← HSN.out] at hJ5
        have J5 := Lib.hid hJ5
        clear q0 q1 q2 q3 q4 HAP hok hJ5 J4 JB2
        obtain ⟨b', off', hB, hbB, hel⟩ := HD.out.el (by omega)
        have hde := hel i false (by rw [List.getElem?_replicate, if_pos hlt]) 0 _ rfl
        have hde2 := (J5.out.bel.cell (p := ⟨b', off' + i * 1 + 0, none⟩) hbB).trans hde
        rw [Nat.mul_one, Nat.add_zero] at hde2
        subst hB
        clear hel hde
        obtain ⟨A3, c3, hv3, hlc3⟩ := own_slice J5.out.own
        subst hv3
        go_wp2_with fail
        go_roundw
        case rel => exact ⟨i + 1, _, hlt, by go_num, HAS.out, J5.out⟩
        case measure => simp [intOf]; omega
    · obtain rfl : i = n := by omega
      have hTK : (ps.map Prod.snd).take i = ps.map Prod.snd := List.take_of_length_le (by rw [List.length_map]; have := HL.out; omega)
      have hal := HAL.out
      have hln := J2.out.ln
      have hcv := own_str J2.out.own J2.out.ln
      rw [hTK] at hal hcv
      obtain ⟨Z, hZ⟩ : ∃ Z, Z = strOfNums (encAll (ps.map Prod.snd)) := ⟨_, rfl⟩
      rw [← hZ] at hcv
      have HK : Hid (keyR (ps.map Prod.snd) = (Z, 0)) := by rw [hZ]; exact keyR_yes hal
      clear hTK hal hln hZ
      go_wp2_with fail
      go_ret2
      exact ⟨by rw [HK.out]; rfl, J2.out.bel⟩

end Go.Proofs.YtfkapannahcjiaaGreatDoor



/- Checksums: plain arithmetic. -/
namespace Go.Proofs.YtfkapannahcjiaaGreatDoor
open Go.RowKit

def crcStep (r : Nat) : Nat := if r % 2 = 1 then (r / 2) ^^^ 2197175160 else r / 2
def crcSteps (r : Nat) : Nat → Nat
  | 0 => r
  | k + 1 => crcStep (crcSteps r k)
def crcByte (r b : Nat) : Nat := crcSteps (r ^^^ b) 8
def crcL (r : Nat) (l : List UInt8) : Nat := l.foldl (fun r x => crcByte r x.toNat) r
def crcSum (s : ByteArray) : Nat := crcL 4294967295 s.data.toList ^^^ 4294967295
theorem xor32 {a b : Nat} (ha : a < 4294967296) (hb : b < 4294967296) : a ^^^ b < 4294967296 := Nat.xor_lt_two_pow (n := 32) ha hb
theorem crcStep_lt {r : Nat} (h : r < 4294967296) : crcStep r < 4294967296 := by
  unfold crcStep
  split
  · exact xor32 (by omega) (by omega)
  · omega
theorem crcSteps_lt {r : Nat} (h : r < 4294967296) : ∀ k, crcSteps r k < 4294967296
  | 0 => h
  | k + 1 => crcStep_lt (crcSteps_lt h k)
theorem crcByte_lt {r b : Nat} (h : r < 4294967296) (hb : b < 256) : crcByte r b < 4294967296 := crcSteps_lt (xor32 h (by omega)) 8
theorem crcL_lt (l : List UInt8) : ∀ {r : Nat}, r < 4294967296 → crcL r l < 4294967296 := by
  induction l with
  | nil => intro r h; exact h
  | cons x l ih =>
    intro r h
    exact ih (crcByte_lt h (by have := x.toNat_lt; omega))
theorem crcSum_lt (s : ByteArray) : crcSum s < 4294967296 := by
  unfold crcSum
  exact xor32 (crcL_lt _ (by omega)) (by omega)
theorem crcL_snoc {r : Nat} {l : List UInt8} {i : Nat} {x : UInt8} (h : l[i]? = some x) : crcL r (l.take (i + 1)) = crcByte (crcL r (l.take i)) x.toNat := by
  unfold crcL
  rw [List.take_add_one, h, List.foldl_append]
  simp only [Option.toList, List.foldl_cons, List.foldl_nil]

theorem ofInt_u32 (a : Nat) (ha : a < 4294967296) : (BitVec.ofInt 32 (a : Int)).toNat = a := by
  rw [BitVec.ofInt_natCast, BitVec.toNat_ofNat]; exact Nat.mod_eq_of_lt (by omega)
theorem u32_and_one (a : Nat) (ha : a < 4294967296) : bits .and .u32 (a : Int) 1 = ((a % 2 : Nat) : Int) := by
  have e : (BitVec.ofInt 32 (1 : Int)).toNat = 1 := by decide
  show IntKind.u32.wrap ((BitVec.ofInt 32 (a : Int) &&& BitVec.ofInt 32 (1 : Int)).toNat : Int) = _
  rw [BitVec.toNat_and, ofInt_u32 a ha, e, Nat.and_one_is_mod, IntKind.wrap_u32]
  omega
theorem u32_xor_nat (a b : Nat) (ha : a < 4294967296) (hb : b < 4294967296) : bits .xor .u32 (a : Int) (b : Int) = ((a ^^^ b : Nat) : Int) := by
  have hx := xor32 ha hb
  show IntKind.u32.wrap ((BitVec.ofInt 32 (a : Int) ^^^ BitVec.ofInt 32 (b : Int)).toNat : Int) = _
  rw [BitVec.toNat_xor, ofInt_u32 a ha, ofInt_u32 b hb, IntKind.wrap_u32]
  omega
end Go.Proofs.YtfkapannahcjiaaGreatDoor



/- The contracts of crc.Sum and of the reference's Sum. -/
namespace Go.Proofs.YtfkapannahcjiaaGreatDoor
open Go.RowKit

theorem dsize' (t : ByteArray) : t.data.toList.length = t.size := by rw [Array.length_toList]; rfl
theorem half_nat (r : Nat) : (r : Int) / 2 = ((r / 2 : Nat) : Int) := by omega
theorem wrapu32 {a : Nat} (h : a < 4294967296) : IntKind.u32.wrap (a : Int) = (a : Int) := by rw [IntKind.wrap_u32]; omega
theorem mod2_ways (r : Nat) : (r % 2 = 1 ∧ crcStep r = (r / 2) ^^^ 2197175160) ∨ (r % 2 = 0 ∧ crcStep r = r / 2) := by
  unfold crcStep
  rcases Nat.mod_two_eq_zero_or_one r with h | h
  · exact .inr ⟨h, by rw [if_neg (by omega)]⟩
  · exact .inl ⟨h, by rw [if_pos h]⟩
/-- one step in numbers of 32 bits -/
theorem step_facts {r : Nat} (hr : r < 4294967296) : ∃ o h c : Nat, bits .and .u32 (r : Int) 1 = (o : Int) ∧ (r : Int) / 2 = (h : Int) ∧ IntKind.u32.wrap (h : Int) = (h : Int) ∧ bits .xor .u32 (h : Int) 2197175160 = (c : Int) ∧ h < 4294967296 ∧ ((o = 1 ∧ crcStep r = c) ∨ (o = 0 ∧ crcStep r = h)) := by
  refine ⟨r % 2, r / 2, (r / 2) ^^^ 2197175160, u32_and_one r hr, half_nat r, wrapu32 (by omega), u32_xor_nat (r / 2) 2197175160 (by omega) (by omega), by omega, ?_⟩
  rcases mod2_ways r with ⟨h1, h2⟩ | ⟨h1, h2⟩
  · exact .inl ⟨h1, h2⟩
  · exact .inr ⟨h1, h2⟩

set_option maxRecDepth 100000 in
set_option maxHeartbeats 1000000 in
theorem crc_any (s : ByteArray) (w : World) (hs : s.size ≤ 140737488355328) : Calls Tryz.prog 54 #[.string s] w fun e w' => e = .returned (.int .u32 ((crcSum s : Nat) : Int)) ∧ w' = w := by
  go_enter Tryz.func54, Tryz.ntmps54
  go_upto_region 3 with fail
  go_loopw [3, 4, 5, 8, 17] (fun u3 _ _ u8 _ wr => ∃ i : Nat, i ≤ s.size ∧ u8 = .int .i64 i ∧ u3 = .int .u32 ((crcL 4294967295 (s.data.toList.take i) : Nat) : Int) ∧ wr = w) (fun _ _ _ u8 _ _ => s.size - (intOf u8).toNat)
  case atStart => exact ⟨0, Nat.zero_le _, rfl, rfl, rfl⟩
  case round =>
    obtain ⟨i, hi, rfl, rfl, rfl⟩ := hrel
    have hlt32 := crcL_lt (s.data.toList.take i) (r := 4294967295) (by omega)
    obtain ⟨r, hr⟩ : ∃ r, r = crcL 4294967295 (s.data.toList.take i) := ⟨_, rfl⟩
    rw [← hr] at hlt32 ⊢
    have HR := Lib.hid hr
    clear hr
    have sz : (s.size : Int) ≤ 140737488355328 := by omega
    have i0 : (0 : Int) ≤ (i : Int) := by omega
    by_cases hlt : i < s.size
    · have hx := s[i].toNat_lt
      have HSN := Lib.hid (crcL_snoc (r := 4294967295) (bytes_at s i hlt))
      obtain ⟨b, hb⟩ : ∃ b, b = s[i].toNat := ⟨_, rfl⟩
      have hbw : IntKind.u32.wrap (s[i].toNat : Int) = (b : Int) := by rw [hb]; exact wrapu32 (by omega)
      have hxr := u32_xor_nat r b hlt32 (by omega)
      obtain ⟨r0, hr0⟩ : ∃ r0, r0 = r ^^^ b := ⟨_, rfl⟩
      have hr0l : r0 < 4294967296 := by rw [hr0]; exact xor32 hlt32 (by omega)
      rw [← hr0] at hxr
      have i1 : (i : Int) < (s.size : Int) := by omega
      have HNX : Hid (crcL 4294967295 (s.data.toList.take (i + 1)) = crcSteps r0 8) := by
        refine HSN.out.trans ?_
        rw [hr0, HR.out, hb]
        rfl
      have HR0 := Lib.hid hr0l
      clear hb hr0
      go_upto_region 7 with fail
      clear hxr hbw hx hr0l HSN
      go_loopw [3, 5, 17] (fun u3 _ u17 wx => ∃ k : Nat, k ≤ 8 ∧ u17 = .int .i64 k ∧ u3 = .int .u32 ((crcSteps r0 k : Nat) : Int) ∧ wx = wr) (fun _ _ u17 _ => 9 - (intOf u17).toNat)
      case atStart => exact ⟨0, Nat.zero_le _, rfl, rfl, rfl⟩
      case round =>
        obtain ⟨k, hk, rfl, rfl, rfl⟩ := hrel
        have hl := crcSteps_lt HR0.out k
        have hstep : crcSteps r0 (k + 1) = crcStep (crcSteps r0 k) := rfl
        obtain ⟨r1, hr1⟩ : ∃ r1, r1 = crcSteps r0 k := ⟨_, rfl⟩
        rw [← hr1] at hl hstep ⊢
        have HR1 := Lib.hid hr1
        have HST := Lib.hid hstep
        clear hr1 hstep
        by_cases hk8 : k < 8
        · obtain ⟨o, h, c, f1, f2, f3, f4, f5, f6⟩ := step_facts hl
          have HL := Lib.hid hl
          have k0 : (0 : Int) ≤ (k : Int) := by omega
          clear hl
          rcases f6 with ⟨rfl, f7⟩ | ⟨rfl, f7⟩
          · have HF := Lib.hid f7
            clear f7
            go_wp2_with fail
            go_roundw
            case rel => exact ⟨k + 1, hk8, by go_num, by rw [HST.out, HF.out], trivial⟩
            case measure => simp [intOf]; omega
          · have HF := Lib.hid f7
            clear f7
            go_wp2_with fail
            go_roundw
            case rel => exact ⟨k + 1, hk8, by go_num, by rw [HST.out, HF.out], trivial⟩
            case measure => simp [intOf]; omega
        · obtain rfl : k = 8 := by omega
          go_wp2_with fail
          go_roundw
          case rel => exact ⟨i + 1, hlt, by go_num, by rw [HNX.out, ← HR1.out], trivial⟩
          case measure => simp [intOf]; omega
    · obtain rfl : i = s.size := by omega
      have hTK : s.data.toList.take s.size = s.data.toList := List.take_of_length_le (by rw [dsize']; exact Nat.le_refl _)
      have HX : Hid (bits .xor .u32 IntKind.u32.max (r : Int) = ((crcSum s : Nat) : Int)) := by
        have e := u32_xor_nat 4294967295 r (by omega) hlt32
        rw [Nat.xor_comm] at e
        unfold Hid crcSum
        rw [← hTK, ← HR.out]
        exact e
      clear hTK
      go_wp2_with fail
      go_ret
      exact ⟨by rw [← HX.out]; rfl, rfl⟩

end Go.Proofs.YtfkapannahcjiaaGreatDoor



/- The contracts of shardkey.encode and Hash. Printed by gen_shcode.py. -/
namespace Go.Proofs.YtfkapannahcjiaaGreatDoor
open Go.RowKit

/-- the hash of a value -/
noncomputable def hashV (x : Val) : Int := if allowB x then ((crcSum (strOfNums (encV x)) : Nat) : Int) else 0
theorem hashV_range (x : Val) : 0 ≤ hashV x ∧ hashV x < 4294967296 := by
  unfold hashV
  split
  · have := crcSum_lt (strOfNums (encV x)); omega
  · omega
theorem keyR_one_yes {x : Val} (h : allowB x = true) : keyR [x] = (strOfNums (encV x), 0) := by
  have e : encAll [x] = encV x := by simp [encAll]
  rw [keyR_yes (by simp [allowsB, h]), e]
theorem keyR_one_no {x : Val} (h : allowB x = false) : keyR [x] = (ByteArray.empty, 8) := keyR_no (i := 0) rfl h
/-- a value that is laid as the one element of a slice -/
theorem sl_one {w : World} {g : Nat} {c : VC} {x : Val} (h : Blk w g 29 c.arr) (hr : RW w c x) : SL (fun _ => True) w (some ⟨g, 0, none⟩) 1 1 [(c, x)] := by
  refine ⟨⟨rfl, Nat.le_refl _, fun _ => ⟨g, 0, rfl, h.lt, fun i a hi j v hj => ?_⟩⟩, by decide, fun _ => ⟨g, 0, rfl, Ft.top⟩, fun p hp => ?_⟩
  · cases i with
    | zero =>
      simp at hi
      subst hi
      have := vat_cell (VAt.of_blk h) j v hj
      simpa using this
    | succ i => simp at hi
  · simp at hp
    subst hp
    exact hr
theorem sx_one {w : World} {g : Nat} {t : TypeId} (h : Blk w g t #[.bool false]) : SR 1 recX w (some ⟨g, 0, none⟩) 1 1 (List.replicate 1 false) := by
  refine ⟨rfl, Nat.le_refl _, fun _ => ⟨g, 0, rfl, h.lt, fun i a hi j v hj => ?_⟩⟩
  cases i with
  | zero =>
    simp at hi
    subst hi
    cases j with
    | zero => simp [recX] at hj; subst hj; exact h.cell 0
    | succ j => simp [recX] at hj
  | succ i => simp at hi

set_option maxRecDepth 100000 in
set_option maxHeartbeats 1000000 in
theorem code_any (x : Val) (c : VC) (w : World) (hT : Tabs w) (h : RW w c x) :
    Calls Tryz.prog 53 #[c.val] w fun e w' => e = .returned (.tuple #[.string (keyR [x]).1, .int .i64 (keyR [x]).2]) ∧ Below w.heap.size w w' := by
  have H := Lib.hid h
  have HT := Lib.hid hT
  have BE : Hid (Below w.heap.size w (((w.alloc (Obj.cells c.arr 29)).alloc (Obj.cells c.arr 29)).alloc (Obj.cells #[.bool false] 4))) := (((Below.refl _ _).alloc (Nat.le_refl _) _).alloc (by simp) _).alloc (by simp; omega) _
  have B1 : Hid (Blk (((w.alloc (Obj.cells c.arr 29)).alloc (Obj.cells c.arr 29)).alloc (Obj.cells #[.bool false] 4)) (w.heap.size + 1) 29 c.arr) := (Blk.new_at (by simp)).alloc _
  have B2 : Hid (Blk (((w.alloc (Obj.cells c.arr 29)).alloc (Obj.cells c.arr 29)).alloc (Obj.cells #[.bool false] 4)) (w.heap.size + 2) 4 #[.bool false]) := Blk.new_at (by simp)
  obtain ⟨wb, hwb⟩ : ∃ wb, wb = (((w.alloc (Obj.cells c.arr 29)).alloc (Obj.cells c.arr 29)).alloc (Obj.cells #[.bool false] 4)) := ⟨_, rfl⟩
  rw [← hwb] at BE B1 B2
  have HC := Lib.hid (encode_any [(c, x)] (some ⟨w.heap.size + 1, 0, none⟩) (some ⟨w.heap.size + 2, 0, none⟩) 1 1 1 wb (HT.out.step BE.out) (sl_one B1.out (H.out.step BE.out)) (sx_one B2.out) (by omega))
  rw [hwb] at HC
  have HWB := Lib.hid hwb
  clear h hT hwb
  simp only [List.map_cons, List.map_nil] at HC
  obtain ⟨K, hK⟩ : ∃ K, keyR [x] = K := ⟨_, rfl⟩
  rw [hK] at HC ⊢
  clear hK
  obtain ⟨K1, K2⟩ := K
  go_enter Tryz.func53, Tryz.ntmps53
  go_wp2_with fail
  refine HC.out.mono ?_
  rintro e w1 ⟨rfl, hb⟩
  rw [← HWB.out] at hb
  have CE := Lib.hid (BE.out.step' hb)
  clear hb HC B1 B2
  go_wp2_with fail
  go_ret2
  exact ⟨rfl, CE.out⟩

set_option maxRecDepth 100000 in
set_option maxHeartbeats 1000000 in
theorem hash_any (x : Val) (c : VC) (w : World) (hT : Tabs w) (h : RW w c x) :
    Calls Tryz.prog 20 #[c.val] w fun e w' => e = .returned (.int .i64 (hashV x)) ∧ Below w.heap.size w w' := by
  have H := Lib.hid h
  have B0 : Hid (Blk (w.alloc (Obj.cells c.arr 29)) w.heap.size 29 c.arr) := Blk.new_at rfl
  have BE : Hid (Below w.heap.size w (w.alloc (Obj.cells c.arr 29))) := (Below.refl _ _).alloc (Nat.le_refl _) _
  have HC := Lib.hid fun (w1 : World) (hb : Below w.heap.size w w1) => code_any x c w1 (hT.step hb) (h.step hb)
  clear h hT
  go_enter Tryz.func20, Tryz.ntmps20
  go_upto_region 1 with fail
  change (Code.region 1 _ _).wp _ _ _ (w.alloc (Obj.cells c.arr 29))
  generalize w.alloc (Obj.cells c.arr 29) = wa at *
  obtain ⟨q0, q1, q2, q3, q4⟩ := VAt.of_blk B0.out
  simp only [Nat.zero_add] at q0 q1 q2 q3 q4
  have HCA := Lib.hid (HC.out wa BE.out)
  cases hA : allowB x
  · have HV : Hid (hashV x = 0) := by unfold Hid hashV; rw [hA]; rfl
    rw [keyR_one_no hA] at HCA
    clear hA HC
    go_wp2_with fail
    refine HCA.out.mono ?_
    rintro e w1 ⟨rfl, hb⟩
    have CE := Lib.hid (BE.out.step' hb)
    clear q0 q1 q2 q3 q4 hb HCA B0
    go_wp2_with fail
    go_ret
    exact ⟨by rw [HV.out]; rfl, CE.out⟩
  · have HV : Hid (hashV x = ((crcSum (strOfNums (encV x)) : Nat) : Int)) := by unfold Hid hashV; rw [hA]; rfl
    have hz := (allow_enc hA).2
    have hzz : (strOfNums (encV x)).size ≤ 140737488355328 := by rw [strOfNums_size]; omega
    rw [keyR_one_yes hA] at HCA
    have hlt := crcSum_lt (strOfNums (encV x))
    obtain ⟨S, hS⟩ : ∃ S, S = strOfNums (encV x) := ⟨_, rfl⟩
    rw [← hS] at HCA HV hzz hlt
    have HZ := Lib.hid hzz
    obtain ⟨q, hq⟩ : ∃ q, q = crcSum S := ⟨_, rfl⟩
    rw [← hq] at HV hlt
    have HQ := Lib.hid hq
    have qz : (q : Int) < 4294967296 := by omega
    clear hA HC hS hz hzz hlt hq
    go_wp2_with fail
    refine HCA.out.mono ?_
    rintro e w1 ⟨rfl, hb⟩
    have CE := Lib.hid (BE.out.step' hb)
    clear q0 q1 q2 q3 q4 hb HCA B0
    go_wp2_with fail
    refine (crc_any S w1 HZ.out).mono ?_
    rintro e w2 ⟨rfl, rfl⟩
    rw [← HQ.out]
    go_wp2_with fail
    go_ret
    exact ⟨by rw [HV.out]; rfl, CE.out⟩

end Go.Proofs.YtfkapannahcjiaaGreatDoor



/- The contract of shardkey.Encode. -/
namespace Go.Proofs.YtfkapannahcjiaaGreatDoor
open Go.RowKit

noncomputable def intH (y : Val) : Val := .mk 3 (hashV y) ByteArray.empty [] []
noncomputable def intC (y : Val) : VC := ⟨3, hashV y, ByteArray.empty, none, 0, 0, none, 0, 0⟩
theorem rv_int {F : Nat → Prop} {w : World} (y : Val) : RV F w (intC y) (intH y) :=
  RVs.shut ⟨rfl, rfl, rfl, by show 0 ≤ reach; decide, rfl, Nat.le_refl _, by show 0 * 80 ≤ reach; decide, fun h => absurd h (by show ¬ (0 < 0); omega), rfl, Nat.le_refl _, by show 0 * 96 ≤ reach; decide, fun h => absurd h (by show ¬ (0 < 0); omega)⟩
noncomputable def hashes (ha : Bool) (ys : List Val) : List Val := if ha then ys.map intH else ys
noncomputable def encR (ks : List Od) (ha : Bool) (x : Val) : ByteArray × Int := match valsR ks x with
  | none => (ByteArray.empty, 8)
  | some ys => keyR (hashes ha ys)
theorem encR_none {ks : List Od} {ha : Bool} {x : Val} (h : valsR ks x = none) : encR ks ha x = (ByteArray.empty, 8) := by rw [encR, h]
theorem encR_some {ks : List Od} {ha : Bool} {x : Val} {ys : List Val} (h : valsR ks x = some ys) : encR ks ha x = keyR (hashes ha ys) := by rw [encR, h]
theorem hashes_yes (ys : List Val) (y : Val) : hashes true (ys ++ [y]) = hashes true ys ++ [intH y] := by simp [hashes]
theorem hashes_no (ys : List Val) : hashes false ys = ys := rfl
theorem hashes_len (ha : Bool) (ys : List Val) : (hashes ha ys).length = ys.length := by cases ha <;> simp [hashes]

theorem kinfo_bool : (Tryz.prog.info? 4).map (fun i => (i.zero, i.size, i.bytes)) = some (some (.bool false), 1, 1) := by kernel_rfl
theorem sx_made (w : World) (n : Nat) : SR 1 recX (w.alloc (.cells (madeCells #[.bool false] n) 4)) (some ⟨w.heap.size, 0, none⟩) n n (List.replicate n false) := by
  refine ⟨by simp, Nat.le_refl _, fun _ => ⟨w.heap.size, 0, rfl, by simp, fun i a hi j v hj => ?_⟩⟩
  cases j with
  | zero =>
    rw [Blk.cell (Blk.new _ _ _)]
    rw [List.getElem?_replicate] at hi
    split at hi
    · rename_i hl
      cases hi
      simp [recX] at hj
      subst hj
      simp [madeCells, hl, Nat.mod_one]
    · cases hi
  | succ j => simp [recX] at hj

set_option maxRecDepth 100000 in
set_option maxHeartbeats 4000000 in
theorem senc_any (ks : List Od) (ha : Bool) (A : Option Addr) (n cc : Nat) (x : Val) (c : VC) (w : World) (hT : Tabs w) (hk : KS w A n cc ks) (hx : RW w c x) (h8 : ks.length ≤ 8) :
    Calls Tryz.prog 12 #[.agg #[.slice A n cc, .bool ha], c.val] w fun e w' => e = .returned (.tuple #[.string (encR ks ha x).1, .int .i64 (encR ks ha x).2]) ∧ Below w.heap.size w w' := by
  obtain ⟨i0, hi0, hy0, hy1, hy2⟩ := info_parts info_value
  have HT := Lib.hid hT
  have HN := Lib.hid hk.ln
  have HX := Lib.hid hx
  have HK := Lib.hid hk
  have HKX : Hid (c.k = x.k) := hx.open.k
  have hn8 : n ≤ 8 := by have := HN.out; omega
  have I0 : Hid (VlI w #[.slice A n cc, .bool ha] c (.slice none 0 0) [] ((w.alloc (Obj.cells #[.slice A n cc, .bool ha] 24)).alloc (Obj.cells c.arr 29))) := VlI.start
  clear hk hx hT
  go_enter Tryz.func12, Tryz.ntmps12
  go_upto_region 1 with fail
  change Code.wp _ _ _ _ ((w.alloc (Obj.cells #[.slice A n cc, .bool ha] 24)).alloc (Obj.cells c.arr 29))
  generalize ((w.alloc (Obj.cells #[.slice A n cc, .bool ha] 24)).alloc (Obj.cells c.arr 29)) = wa at *
  obtain ⟨a0, a1, a2, a3, a4⟩ := VAt.of_blk I0.out.b1
  simp only [Nat.zero_add] at a0 a1 a2 a3 a4
  by_cases h5 : c.k = 5
  rotate_left
  · have h5b : (c.k != 5) = true := by simp [h5]
    have HV : Hid (encR ks ha x = (ByteArray.empty, 8)) := encR_none (valsR_kind (by rw [← HKX.out]; exact h5))
    clear h5
    go_wp2_with fail
    go_ret2
    exact ⟨by rw [HV.out]; rfl, I0.out.vs.bel⟩
  have h5b : (c.k != 5) = false := by simp [h5]
  have HX5 : Hid (x.k = 5) := by unfold Hid; rw [← HKX.out]; exact h5
  clear h5
  have hva := Lib.hid (valid_any x c wa (HT.out.step I0.out.vs.bel) (HX.out.step I0.out.vs.bel))
  cases hv : validV x
  · have HV : Hid (encR ks ha x = (ByteArray.empty, 8)) := encR_none (valsR_bad hv)
    rw [hv] at hva
    clear hv
    go_wp2_with fail
    refine hva.out.mono ?_
    rintro e w1 ⟨rfl, hb⟩
    have I1 := Lib.hid (I0.out.step hb)
    clear hva hb a0 a1 a2 a3 a4
    go_wp2_with fail
    go_ret2
    exact ⟨by rw [HV.out]; rfl, I1.out.vs.bel⟩
  have HVX : Hid (valsR ks x = valsAt x ks) := valsR_yes HX5.out hv
  rw [hv] at hva
  clear hv
  go_wp2_with fail
  refine hva.out.mono ?_
  rintro e w1 ⟨rfl, hb⟩
  have I1 := Lib.hid (I0.out.step hb)
  clear hva hb a0 a1 a2 a3 a4 I0
  have k0 := I1.out.b0.cell 0
  simp at k0
  go_upto_region 5 with fail
  clear k0
  go_loopw [6, 8, 9, 10, 22] (fun u6 _ _ _ u22 wr => ∃ (i : Nat) (ys : List Val) (ps : List PV), i ≤ n ∧ ys.length = i ∧ ps.map Prod.snd = hashes ha ys ∧ u22 = .int .i64 i ∧ valsAt x ks = (valsAt x (ks.drop i)).map (ys ++ ·) ∧ VlI w #[.slice A n cc, .bool ha] c u6 ps wr) (fun _ _ _ _ u22 _ => n - (intOf u22).toNat)
  case atStart => exact ⟨0, [], [], Nat.zero_le _, rfl, by cases ha <;> rfl, rfl, by simp, I1.out⟩
  case round =>
    obtain ⟨i, ys, ps, hi, hyl, hps, rfl, hall, J⟩ := hrel
    have HYL := Lib.hid hyl
    have HPS := Lib.hid hps
    have HPL : Hid (ps.length = i) := by have := congrArg List.length hps; rw [List.length_map, hashes_len, hyl] at this; exact this
    have HA := Lib.hid hall
    have J2 := Lib.hid J
    clear hyl hps hall J I1
    by_cases hlt : i < n
    · obtain ⟨os, hos⟩ := HK.out
      obtain ⟨b, off, o, hA, hb, ho, e0, e1⟩ := hos.sr.at2 hlt
      subst hA
      obtain ⟨q, hq⟩ : ∃ q, ks[i]? = some q := ⟨_, List.getElem?_eq_getElem (by have := HN.out; omega)⟩
      have HOR := Lib.hid (hos.el i o q ho hq)
      have HVA := Lib.hid (valsAt_at (x := x) hq)
      have ew := (J2.out.vs.bel.cell (p := ⟨b, off + i * 2, none⟩) hb).trans e0
      have ew1 := (J2.out.vs.bel.cell (p := ⟨b, off + i * 2 + 1, none⟩) hb).trans e1
      have hbw : b < wr.heap.size := Nat.lt_of_lt_of_le hb J2.out.vs.bel.size
      have i0' : (0 : Int) ≤ (i : Int) := by omega
      have i1' : (i : Int) < (n : Int) := by omega
      clear hos ho hq e0 e1
      go_upto_region 7 with fail
      change Code.wp _ _ _ _ (wr.alloc (Obj.cells #[.slice o.A o.n o.c, .bool o.d] 54))
      have JB : Hid (Blk (wr.alloc (Obj.cells #[.slice o.A o.n o.c, .bool o.d] 54)) wr.heap.size 54 #[.slice o.A o.n o.c, .bool o.d]) := Blk.new_at rfl
      have J3 := Lib.hid (J2.out.step ((Below.refl wr.heap.size wr).alloc (Nat.le_refl _) (Obj.cells #[.slice o.A o.n o.c, .bool o.d] 54)))
      generalize wr.alloc (Obj.cells #[.slice o.A o.n o.c, .bool o.d] 54) = wb at *
      generalize wr.heap.size = ga at *
      clear ew ew1 hbw J2
      obtain ⟨a0, a1, a2, a3, a4⟩ := VAt.of_blk J3.out.b1
      simp only [Nat.zero_add] at a0 a1 a2 a3 a4
      have o0 := JB.out.cell 0
      simp at o0
      have HAT := Lib.hid (at_any (F := fun b => b < w.heap.size) x c o.A o.n o.c q.p wb ((HX.out.lt.mono fun b hb => hb.2).keep fun b hb => J3.out.vs.bel.block b hb) (HOR.out.st.step J3.out.vs.bel))
      go_wp2_with fail
      refine HAT.out.mono ?_
      rintro e w2 ⟨c9, rfl, hr, hb⟩
      have J4 := Lib.hid (J3.out.step hb)
      have HR9 : Hid (∀ y, keyAt x q.p = some y → RV (fun b => Value.ownBlock u6 ≠ some b) w2 c9 y) := fun y hy => (hr y hy).mono fun b hb => J3.out.vs.far hb
      clear hr hb HAT a0 a1 a2 a3 a4 o0 JB J3
      cases hg : keyAt x q.p with
      | none =>
        have HV : Hid (encR ks ha x = (ByteArray.empty, 8)) := encR_none (by rw [HVX.out, HA.out, HVA.out, hg]; rfl)
        have J5 := Lib.hid (J4.out.step ((Below.refl w2.heap.size w2).alloc (Nat.le_refl _) (Obj.cells c9.arr 29)))
        clear hg
        go_wp2_with fail
        go_ret2
        exact ⟨by rw [HV.out]; rfl, J5.out.vs.bel⟩
      | some y =>
        have HRY := Lib.hid (HR9.out y hg)
        have HV : Hid (valsAt x ks = (valsAt x (ks.drop (i + 1))).map ((ys ++ [y]) ++ ·)) := by
          unfold Hid
          rw [HA.out, HVA.out, hg]
          simp [Option.map_map, Function.comp_def]
        clear hg HR9
        have hlo2 : w.heap.size ≤ w2.heap.size := J4.out.vs.bel.size
        have NE : Hid (Value.ownBlock u6 ≠ some w2.heap.size) := J4.out.vs.far (.inr (Nat.le_refl _))
        have NG : Hid (w.heap.size + 2 ≤ w2.heap.size) := J4.out.sz
        go_upto_region 10 with fail
        change Code.wp _ _ _ _ (w2.alloc (Obj.cells c9.arr 29))
        have JB : Hid (Blk (w2.alloc (Obj.cells c9.arr 29)) w2.heap.size 29 c9.arr) := Blk.new_at rfl
        have J5 := Lib.hid (J4.out.step ((Below.refl w2.heap.size w2).alloc (Nat.le_refl _) (Obj.cells c9.arr 29)))
        have HR5 := Lib.hid (HRY.out.alloc (Obj.cells c9.arr 29))
        have BE5 : Hid (Below w2.heap.size w2 (w2.alloc (Obj.cells c9.arr 29))) := (Below.refl w2.heap.size w2).alloc (Nat.le_refl _) (Obj.cells c9.arr 29)
        generalize w2.alloc (Obj.cells c9.arr 29) = w3 at *
        have BE5 : Hid (Below w2.heap.size w2 w3) := BE5
        generalize hG9 : w2.heap.size = g9 at *
        have HG9 := Lib.hid hG9
        clear hG9 NE NG
        have k1 := J5.out.b0.cell 1
        simp at k1
        have hpi : ps.length ≤ 8 := by have := HPL.out; omega
        clear HRY
        cases ha
        · obtain ⟨g0, g1, g2, g3, g4⟩ := VAt.of_blk JB.out
          simp only [Nat.zero_add] at g0 g1 g2 g3 g4
          have hlo : w.heap.size ≤ w3.heap.size := J5.out.vs.bel.size
          have LK := Lib.hid (J5.out.step ((Below.refl w3.heap.size w3).alloc (Nat.le_refl _) (Obj.cells c9.arr 29)))
          have HRZ := Lib.hid (HR5.out.alloc (Obj.cells c9.arr 29))
          go_wp2_with (at_builtin; refine wpList_append_any _ rfl _ _ 26 rfl w.heap.size 29 i0 VC.zero.val 5 80 Tryz.underlying26 hi0 hy0 hy1 hy2 rfl (by decide) u6 ps.length (flat recV ps) rfl LK.out.vs.own _ _ 1 _ (recV (c9, y)) rfl ⟨rfl, fun _ => ⟨_, rfl, Nat.lt_succ_self _, news_at _ _ _⟩⟩ (recV_one _) (by unfold maxLen; omega) (by omega) (alloc_le hlo _) ?_)
          intro v' w4 hown hgr hat
          have HI := Lib.hid (LK.out.add (p := (c9, y)) HRZ.out rfl hown hgr (by rw [size_alloc]; exact hat))
          clear hown hgr hat LK HRZ g0 g1 g2 g3 g4 HR5 JB J5 k1
          go_wp2_with fail
          go_roundw
          case rel => exact ⟨i + 1, ys ++ [y], ps ++ [(c9, y)], hlt, by rw [List.length_append, HYL.out]; rfl, by rw [List.map_append, HPS.out]; rfl, by go_num, by rw [HV.out], HI.out⟩
          case measure => simp [intOf]; omega
        · obtain ⟨g0, g1, g2, g3, g4⟩ := VAt.of_blk JB.out
          simp only [Nat.zero_add] at g0 g1 g2 g3 g4
          have HHA := Lib.hid (hash_any y c9 w3 (HT.out.step J5.out.vs.bel) (HR5.out.mono fun _ _ => trivial))
          go_wp2_with fail
          refine HHA.out.mono ?_
          rintro e w4 ⟨rfl, hb⟩
          have J6 := Lib.hid (J5.out.step hb)
          have hb4 := Lib.hid hb
          have JB2 := Lib.hid (JB.out.step hb)
          clear g0 g1 g2 g3 g4 hb HHA HR5 JB J5 k1
          obtain ⟨g0, g1, g2, g3, g4⟩ := VAt.of_blk JB2.out
          simp only [Nat.zero_add] at g0 g1 g2 g3 g4
          have gz := JB2.out.frozen
          obtain ⟨hh, hhe⟩ : ∃ h, hashV y = h := ⟨_, rfl⟩
          rw [hhe]
          have HHE := Lib.hid hhe
          clear hhe
          go_upto_region 12 with fail
          have BE6 : Hid (Below w2.heap.size w2 (setV w4 g9 0 ⟨3, hh, ByteArray.empty, none, 0, 0, none, 0, 0⟩)) := by
            have h5 := BE5.out
            rw [← HG9.out] at h5
            exact below_setV (h5.step' hb4.out) (by rw [HG9.out]; exact Nat.le_refl _) 0 _
          have J7 := Lib.hid (J4.out.step BE6.out)
          have JB3 := Lib.hid (JB2.out.putV ⟨3, hh, ByteArray.empty, none, 0, 0, none, 0, 0⟩)
          change Code.wp _ _ _ _ (setV w4 g9 0 ⟨3, hh, ByteArray.empty, none, 0, 0, none, 0, 0⟩)
          generalize setV w4 g9 0 ⟨3, hh, ByteArray.empty, none, 0, 0, none, 0, 0⟩ = w5 at *
          clear g0 g1 g2 g3 g4 gz BE6 BE5 J6 JB2 hb4 J4
          obtain ⟨g0, g1, g2, g3, g4⟩ := VAt.of_blk JB3.out
          simp only [Nat.zero_add] at g0 g1 g2 g3 g4
          have hlo : w.heap.size ≤ w5.heap.size := J7.out.vs.bel.size
          have LK := Lib.hid (J7.out.step ((Below.refl w5.heap.size w5).alloc (Nat.le_refl _) (Obj.cells (VC.arr ⟨3, hh, ByteArray.empty, none, 0, 0, none, 0, 0⟩) 29)))
          go_wp2_with (at_builtin; refine wpList_append_any _ rfl _ _ 26 rfl w.heap.size 29 i0 VC.zero.val 5 80 Tryz.underlying26 hi0 hy0 hy1 hy2 rfl (by decide) u6 ps.length (flat recV ps) rfl LK.out.vs.own _ _ 1 _ (recV (⟨3, hh, ByteArray.empty, none, 0, 0, none, 0, 0⟩, intH y)) rfl ⟨rfl, fun _ => ⟨_, rfl, Nat.lt_succ_self _, news_at _ _ _⟩⟩ (recV_one _) (by unfold maxLen; omega) (by omega) (alloc_le hlo _) ?_)
          intro v' w6 hown hgr hat
          have HI := Lib.hid (LK.out.add (p := (⟨3, hh, ByteArray.empty, none, 0, 0, none, 0, 0⟩, intH y)) (by rw [← HHE.out]; exact rv_int y) rfl hown hgr (by rw [size_alloc]; exact hat))
          clear hown hgr hat LK g0 g1 g2 g3 g4 JB3 J7
          go_wp2_with fail
          go_roundw
          case rel => exact ⟨i + 1, ys ++ [y], ps ++ [(⟨3, hh, ByteArray.empty, none, 0, 0, none, 0, 0⟩, intH y)], hlt, by rw [List.length_append, HYL.out]; rfl, by rw [List.map_append, HPS.out, hashes_yes]; rfl, by go_num, by rw [HV.out], HI.out⟩
          case measure => simp [intOf]; omega
    · obtain rfl : i = n := by omega
      have HV : Hid (encR ks ha x = keyR (ps.map Prod.snd)) := by
        rw [HPS.out]
        refine encR_some ?_
        rw [HVX.out, HA.out, List.drop_of_length_le (by have := HN.out; omega), valsAt]
        simp
      obtain ⟨A1, c1, hu6, hsl⟩ := J2.out.vs.sl (by have := HPL.out; omega)
      rw [HPL.out] at hu6 hsl
      have HSL := Lib.hid hsl
      subst hu6
      clear hsl
      go_upto_region 14 with fail
      obtain ⟨j0, hj0, hz0, hz1, hz2⟩ := info_parts kinfo_bool
      have hmk := run_make_rowN (P := Tryz.prog) 80 4 j0 (.bool false) Tryz.underlying80 hj0 hz0 i (by rw [hz2]; omega) (by omega)
      rw [hz1, Nat.mul_one] at hmk
      have LK := Lib.hid (J2.out.step ((Below.refl wr.heap.size wr).alloc (Nat.le_refl _) (.cells (madeCells #[.bool false] i) 4)))
      have hec := encode_any ps A1 (some ⟨wr.heap.size, 0, none⟩) i c1 i (wr.alloc (.cells (madeCells #[.bool false] i) 4)) (HT.out.step LK.out.vs.bel) (HSL.out.step ((Below.refl wr.heap.size wr).alloc (Nat.le_refl _) _)) (sx_made wr i) (by omega)
      rw [← HV.out] at hec
      have HEC := Lib.hid hec
      obtain ⟨⟨K1, K2⟩, hK⟩ : ∃ K, encR ks ha x = K := ⟨_, rfl⟩
      rw [hK] at HEC
      have HKK := Lib.hid hK
      clear hK HV hec
      go_wp2_with fail
      refine HEC.out.mono ?_
      rintro e w5 ⟨rfl, hb⟩
      have CE := Lib.hid (LK.out.vs.bel.step' hb)
      clear hb HEC LK J2 HSL hmk
      go_wp2_with fail
      go_ret2
      exact ⟨by rw [HKK.out]; rfl, CE.out⟩

end Go.Proofs.YtfkapannahcjiaaGreatDoor



/- The contract of the reference's Encode. -/
namespace Go.Proofs.YtfkapannahcjiaaGreatDoor
open Go.RowKit

set_option maxHeartbeats 400000 in
theorem rint01_any (n : Int) (w : World) : Calls Tryz.prog 17 #[.int .i64 n] w fun e w' => e = .returned (VC.val ⟨3, n, ByteArray.empty, none, 0, 0, none, 0, 0⟩) ∧ Below w.heap.size w w' := by
  go_enter Tryz.func17, Tryz.ntmps17
  go_wp2_with fail
  exact bodyPost_ret (results_val rfl _ _ _ rfl _ ⟨3, n, ByteArray.empty, none, 0, 0, none, 0, 0⟩ (VAt.of_blk (Blk.new _ _ _))) rfl ⟨rfl, (Below.refl _ _).alloc (Nat.le_refl _) _⟩

end Go.Proofs.YtfkapannahcjiaaGreatDoor



/- The order of encoded shard keys: the plain law. -/
namespace Go.Proofs.YtfkapannahcjiaaGreatDoor
open Go.RowKit

def Rng (l : List Int) : Prop := ∀ z ∈ l, 0 ≤ z ∧ z < 256
theorem Rng.nil : Rng [] := fun z hz => by simp at hz
theorem Rng.app {l m : List Int} (h : Rng l) (k : Rng m) : Rng (l ++ m) := fun z hz => (List.mem_append.1 hz).elim (h z) (k z)
theorem Rng.cons {a : Int} {l : List Int} (ha : 0 ≤ a ∧ a < 256) (h : Rng l) : Rng (a :: l) := fun z hz => by
  rcases List.mem_cons.1 hz with rfl | hz
  · exact ha
  · exact h z hz
theorem rng_nums (n : Int) : Rng (nums n) := fun z hz => by
  obtain ⟨j, _, rfl⟩ := List.mem_map.1 hz
  exact num8_lt n _
theorem rng_text : ∀ l : List UInt8, Rng (textN l)
  | [] => Rng.nil
  | x :: r => by
    rw [textN]
    refine Rng.app ?_ (rng_text r)
    unfold byteN
    have := x.toNat_lt
    split
    · exact Rng.cons (by omega) (Rng.cons (by omega) Rng.nil)
    · exact Rng.cons (by omega) Rng.nil
theorem rng_str (s : ByteArray) : Rng (strN s) := fun z hz => by
  obtain ⟨x, _, rfl⟩ := List.mem_map.1 hz
  have := x.toNat_lt
  omega
theorem rng_list : ∀ l : List Val, (∀ y ∈ l, Rng (encV y)) → Rng (encL l)
  | [], _ => by rw [encL]; exact Rng.nil
  | y :: r, h => by rw [encL]; exact Rng.cons (by omega) ((h y (by simp)).app (rng_list r fun z hz => h z (by simp [hz])))
theorem rng_doc : ∀ l : List Fld, (∀ f ∈ l, Rng (encV f.v)) → Rng (encD l)
  | [], _ => by rw [encD]; exact Rng.nil
  | f :: r, h => by
    rw [encD, encF_eq]
    exact Rng.app (Rng.cons (by omega) ((rng_str f.s).app (Rng.cons (by omega) (h f (by simp))))) (rng_doc r fun z hz => h z (by simp [hz]))
theorem rng_enc (x : Val) : SoundV nameB x → Rng (encV x) := by
  induction x using Val.ind with
  | h k n t l d ihl ihd =>
    intro hs
    obtain ⟨hh, hl, hd, _⟩ := (SoundV_iff nameB _).1 hs
    have hk : 1 ≤ k ∧ k ≤ 11 := by
      have := hh.2.2.2.2
      simp only [Val.k] at this
      omega
    rw [encV]
    refine Rng.cons (by omega) ?_
    split
    · exact rng_nums n
    split
    · exact (rng_text _).app (Rng.cons (by omega) (Rng.cons (by omega) Rng.nil))
    split
    · exact (rng_list l fun y hy => ihl y hy (hl y hy)).app (Rng.cons (by omega) Rng.nil)
    split
    · exact (rng_doc d fun f hf => ihd f hf (hd f hf)).app (Rng.cons (by omega) Rng.nil)
    · exact Rng.nil
theorem str_back {l : List Int} (h : Rng l) : ((strOfNums l).data.toList.map fun x => (x.toNat : Int)) = l := by
  rw [strOfNums_data, List.map_map]
  conv => rhs; rw [← List.map_id l]
  refine List.map_congr_left fun z hz => ?_
  have := h z hz
  simp only [Function.comp_apply, id]
  rw [UInt8.toNat_ofNat']
  omega
theorem cmp_str {l m : List Int} (hl : Rng l) (hm : Rng m) : cmpB (strOfNums l) (strOfNums m) = lexI l m := by
  unfold cmpB
  rw [lexI_bytes, str_back hl, str_back hm]
/-- the parts of a valid value -/
theorem vparts {x : Val} (h : validV x = true) : x.size ≤ 1024 ∧ x.height ≤ 16 ∧ SoundV nameB x := by
  unfold validV at h
  simp only [Bool.and_eq_true, decide_eq_true_eq] at h
  exact ⟨h.1.1, h.1.2, soundB_iff.1 h.2⟩
theorem vallow {x : Val} (h : validV x = true) : allowB x = true := by unfold allowB; rw [h, Bool.or_true]
theorem vint (y : Val) : validV (intH y) = true := by
  have hs : SoundV nameB (intH y) := (SoundV_iff _ _).2 ⟨⟨.inl rfl, .inr (.inr (.inr rfl)), .inr rfl, .inr rfl, .inr (.inr (.inr (.inl rfl)))⟩, by simp [intH, Val.l], by simp [intH, Val.d], by simp [intH, Val.d, NamesP]⟩
  have h1 : (intH y).size = 1 := by simp [intH, Val.size]
  have h2 : (intH y).height = 1 := by simp [intH, Val.height]
  unfold validV
  rw [decide_eq_true (by omega), decide_eq_true (by omega), soundB_true hs]
  rfl
theorem or1_of {x : Val} (h : validV x = true) (hn : NumsV x) : Or1 x := ⟨(vparts h).2.2, hn⟩
end Go.Proofs.YtfkapannahcjiaaGreatDoor



/- The least string above a prefix, and the order of the ends of ranges of encoded keys. Plain law. -/
namespace Go.Proofs.YtfkapannahcjiaaGreatDoor
open Go.RowKit

theorem lexI_anti : ∀ (a b : List Int), lexI b a = -lexI a b
  | [], [] => rfl
  | [], _ :: _ => rfl
  | _ :: _, [] => rfl
  | x :: r, y :: s => by
    rw [lexI, lexI, lexI_anti r s]
    split <;> split <;> first | omega | rfl
theorem lexI_nil (a : List Int) : lexI [] a ≤ 0 := by cases a <;> simp [lexI]
theorem lexI_tr : ∀ (a b c : List Int), lexI a b ≤ 0 → lexI b c ≤ 0 → lexI a c ≤ 0 ∧ (lexI a b < 0 ∨ lexI b c < 0 → lexI a c < 0)
  | [], b, [], _, h => by
    cases b with
    | nil => exact ⟨by simp [lexI], fun h => by simp [lexI] at h⟩
    | cons x r => simp [lexI] at h
  | [], _, _ :: _, _, _ => ⟨by simp [lexI], fun _ => by simp [lexI]⟩
  | x :: r, [], _, h, _ => by simp [lexI] at h
  | x :: r, y :: s, [], _, h => by simp [lexI] at h
  | x :: r, y :: s, z :: t, h1, h2 => by
    simp only [lexI] at h1 h2 ⊢
    by_cases a1 : x < y
    · rw [if_pos a1] at *
      by_cases a2 : y < z
      · rw [if_pos (by omega)]; exact ⟨by omega, fun _ => by omega⟩
      · rw [if_neg a2] at *
        by_cases a3 : z < y
        · rw [if_pos a3] at h2; omega
        · rw [if_pos (by omega)]; exact ⟨by omega, fun _ => by omega⟩
    · rw [if_neg a1] at *
      by_cases b1 : y < x
      · rw [if_pos b1] at h1; omega
      · rw [if_neg b1] at *
        by_cases a2 : y < z
        · rw [if_pos (by omega)]; exact ⟨by omega, fun _ => by omega⟩
        · rw [if_neg a2] at *
          by_cases a3 : z < y
          · rw [if_pos a3] at h2; omega
          · rw [if_neg a3] at *
            rw [if_neg (by omega), if_neg (by omega)]
            exact lexI_tr r s t h1 h2
theorem lexI_le_lt {a b c : List Int} (h1 : lexI a b ≤ 0) (h2 : lexI b c < 0) : lexI a c < 0 := (lexI_tr a b c h1 (by omega)).2 (.inr h2)
theorem lexI_lt_le {a b c : List Int} (h1 : lexI a b < 0) (h2 : lexI b c ≤ 0) : lexI a c < 0 := (lexI_tr a b c (by omega) h2).2 (.inl h1)

/-- the least list above all lists with a prefix -/
def afterL : List Int → Option (List Int)
  | [] => none
  | x :: r => match afterL r with
    | some t => some (x :: t)
    | none => if x = 255 then none else some [x + 1]
theorem afterL_none : ∀ {l : List Int}, afterL l = none → ∀ x ∈ l, x = 255
  | [], _, x, hx => by simp at hx
  | y :: r, h, x, hx => by
    unfold afterL at h
    cases hr : afterL r with
    | some t => rw [hr] at h; simp at h
    | none =>
      rw [hr] at h
      simp only at h
      by_cases hy : y = 255
      · rcases List.mem_cons.1 hx with rfl | hx
        · exact hy
        · exact afterL_none hr x hx
      · rw [if_neg hy] at h; simp at h
theorem afterL_some {l : List Int} {x : Int} (hx : x ∈ l) (h : x ≠ 255) : ∃ t, afterL l = some t := by
  cases e : afterL l with
  | some t => exact ⟨t, rfl⟩
  | none => exact absurd (afterL_none e x hx) h
theorem afterL_gt : ∀ {l t : List Int}, afterL l = some t → ∀ a, lexI (l ++ a) t < 0
  | [], t, h, a => by simp [afterL] at h
  | x :: r, t, h, a => by
    unfold afterL at h
    cases hr : afterL r with
    | some u =>
      rw [hr] at h
      simp only [Option.some.injEq] at h
      subst h
      rw [List.cons_append, lexI_cons]
      exact afterL_gt hr a
    | none =>
      rw [hr] at h
      simp only at h
      by_cases hy : x = 255
      · rw [if_pos hy] at h; simp at h
      · rw [if_neg hy] at h
        simp only [Option.some.injEq] at h
        subst h
        rw [List.cons_append, lexI_lt (by omega)]
        omega
theorem top_ge : ∀ {y : List Int} {m : Nat}, Rng y → y.length < m → ¬ lexI (List.replicate m 255) y < 0
  | [], 0, _, h => by simp at h
  | [], m + 1, _, _ => by simp [List.replicate, lexI]
  | y :: s, 0, _, h => by simp at h
  | y :: s, m + 1, hy, h => by
    have h0 := hy y (by simp)
    have ih := top_ge (y := s) (m := m) (fun z hz => hy z (by simp [hz])) (by simpa using h)
    rw [List.replicate_succ, lexI, if_neg (by omega)]
    split
    · omega
    · exact ih
theorem afterL_le : ∀ {l t : List Int}, afterL l = some t → ∀ {y : List Int}, Rng y → (∀ a, lexI (l ++ a) y < 0) → lexI t y ≤ 0
  | [], t, h, y, _, _ => by simp [afterL] at h
  | x :: r, t, h, [], _, hy => by have := hy []; simp [lexI] at this
  | x :: r, t, h, y :: s, hr0, hy => by
    have hxy : x ≤ y := by
      have := hy []
      rw [List.cons_append, lexI] at this
      split at this
      · omega
      · split at this
        · omega
        · omega
    unfold afterL at h
    cases hr : afterL r with
    | some u =>
      rw [hr] at h
      simp only [Option.some.injEq] at h
      subst h
      by_cases hlt : x < y
      · rw [lexI_lt hlt]; omega
      · obtain rfl : x = y := by omega
        rw [lexI_cons]
        refine afterL_le hr (fun z hz => hr0 z (by simp [hz])) fun a => ?_
        have := hy a
        rwa [List.cons_append, lexI_cons] at this
    | none =>
      rw [hr] at h
      simp only at h
      by_cases h255 : x = 255
      · rw [if_pos h255] at h; simp at h
      · rw [if_neg h255] at h
        simp only [Option.some.injEq] at h
        subst h
        by_cases hlt : x < y
        · rw [lexI]
          split
          · omega
          · split
            · omega
            · exact lexI_nil s
        · obtain rfl : x = y := by omega
          exfalso
          have h1 := hy (List.replicate (s.length + 1) 255)
          rw [List.cons_append, lexI_cons] at h1
          have e : r ++ List.replicate (s.length + 1) 255 = List.replicate (r.length + (s.length + 1)) 255 := by
            rw [show r = List.replicate r.length 255 from List.eq_replicate_iff.2 ⟨rfl, afterL_none hr⟩, List.length_replicate, List.replicate_append_replicate]
          rw [e] at h1
          exact top_ge (fun z hz => hr0 z (by simp [hz])) (by omega) h1
theorem rng_after : ∀ {l t : List Int}, Rng l → afterL l = some t → Rng t
  | [], t, _, h => by simp [afterL] at h
  | x :: r, t, hl, h => by
    have hx := hl x (by simp)
    unfold afterL at h
    cases hr : afterL r with
    | some u =>
      rw [hr] at h
      simp only [Option.some.injEq] at h
      subst h
      exact Rng.cons hx (rng_after (fun z hz => hl z (by simp [hz])) hr)
    | none =>
      rw [hr] at h
      simp only at h
      by_cases h255 : x = 255
      · rw [if_pos h255] at h; simp at h
      · rw [if_neg h255] at h
        simp only [Option.some.injEq] at h
        subst h
        exact Rng.cons (by omega) Rng.nil

/-- the end of a range that a place between values is -/
def endL (a : Cut) : List Int := if a.2 then (afterL (encV a.1)).getD [] else encV a.1
/-- a place whose value is valid, with numbers of 64 bits -/
def VO (a : Cut) : Prop := validV a.1 = true ∧ NumsV a.1
theorem VO.or {a : Cut} (h : VO a) : Or1 a.1 := or1_of h.1 h.2
theorem VO.rng {a : Cut} (h : VO a) : Rng (encV a.1) := rng_enc a.1 (vparts h.1).2.2
theorem VO.after {a : Cut} (h : VO a) : ∃ t, afterL (encV a.1) = some t := by
  have hk := kind_range h.1
  rw [encV_eq]
  exact afterL_some (x := a.1.k) (by simp) (by omega)
theorem VO.erng {a : Cut} (h : VO a) : Rng (endL a) := by
  unfold endL
  obtain ⟨t, ht⟩ := h.after
  split
  · rw [ht]; exact rng_after h.rng ht
  · exact h.rng
theorem end_le {a b : Cut} (ha : VO a) (hb : VO b) (h : cmC a b < 0) : lexI (endL a) (endL b) ≤ 0 ∧ (¬ (a.2 = true ∧ b.2 = false) → lexI (endL a) (endL b) < 0) := by
  obtain ⟨x, p⟩ := a
  obtain ⟨y, q⟩ := b
  obtain ⟨t, ht⟩ := ha.after
  obtain ⟨u, hu⟩ := hb.after
  simp only at ht hu
  have gu := afterL_gt hu []
  rw [List.append_nil] at gu
  by_cases h0 : cmpV x y = 0
  · have e : x = y := cmpV_same (nm := nameB) x y (vparts ha.1).2.2 (vparts hb.1).2.2 h0
    subst e
    have hpq : p = false ∧ q = true := by
      unfold cmC lex cmB at h
      simp only [h0] at h
      cases p <;> cases q <;> simp_all
    obtain ⟨rfl, rfl⟩ := hpq
    unfold endL
    simp only [hu, Option.getD_some, Bool.false_eq_true, if_false, if_true]
    exact ⟨by omega, fun _ => gu⟩
  · have hlt : cmpV x y < 0 := by
      unfold cmC lex at h
      by_cases h' : cmpV x y < 0
      · exact h'
      · simp_all
    have ho : ∀ c d, lexI (encV x ++ c) (encV y ++ d) < 0 := fun c d => by
      rw [enc_order x y ha.or hb.or c d, orI_ne h0]; exact hlt
    have h1 : lexI (encV x) (encV y) < 0 := by have := ho [] []; rwa [List.append_nil, List.append_nil] at this
    have h2 : lexI t (encV y) ≤ 0 := afterL_le ht hb.rng fun c => by have := ho c []; rwa [List.append_nil] at this
    unfold endL
    simp only [ht, hu, Option.getD_some]
    cases p <;> cases q <;> simp only [Bool.false_eq_true, if_false, if_true]
    · exact ⟨by omega, fun _ => h1⟩
    · have := lexI_lt_le h1 (show lexI (encV y) u ≤ 0 by omega)
      exact ⟨by omega, fun _ => this⟩
    · exact ⟨h2, fun h => absurd ⟨trivial, trivial⟩ h⟩
    · have := lexI_le_lt h2 gu
      exact ⟨by omega, fun _ => this⟩
end Go.Proofs.YtfkapannahcjiaaGreatDoor



/- The sets of places of predicates: their beginnings and ends have numbers of 64 bits, and no range of keys between them is empty. Plain law. -/
namespace Go.Proofs.YtfkapannahcjiaaGreatDoor

structure GoodS (S : Cut → Prop) : Prop where
  lo : ∀ a, VC1 a → LoE cmC VC1 S a → NumsV a.1 ∧ (a.2 = true → ∀ b, VO b → cmC a b < 0 → ¬ lexI (endL a) (endL b) < 0 → S b)
  hi : ∀ a, VC1 a → HiE cmC VC1 S a → NumsV a.1
theorem GoodS.congr {S T : Cut → Prop} (h : GoodS S) (e : ∀ a, VC1 a → (S a ↔ T a)) : GoodS T :=
  ⟨fun a ha k => by
    obtain ⟨h1, h2⟩ := h.lo a ha (k.congr ha fun b hb => (e b hb).symm)
    exact ⟨h1, fun h3 b hb h4 h5 => (e b hb.1).1 (h2 h3 b hb h4 h5)⟩, fun a ha k => h.hi a ha (k.congr ha fun b hb => (e b hb).symm)⟩
theorem GoodS.or {S T : Cut → Prop} (h : GoodS S) (k : GoodS T) : GoodS fun a => S a ∨ T a := by
  refine ⟨fun a ha m => ?_, fun a ha m => ?_⟩
  · rcases m.or with m | m
    · obtain ⟨h1, h2⟩ := h.lo a ha m
      exact ⟨h1, fun h3 b hb h4 h5 => .inl (h2 h3 b hb h4 h5)⟩
    · obtain ⟨h1, h2⟩ := k.lo a ha m
      exact ⟨h1, fun h3 b hb h4 h5 => .inr (h2 h3 b hb h4 h5)⟩
  · rcases m.or lin_cut with m | m
    · exact h.hi a ha m
    · exact k.hi a ha m
theorem GoodS.none : GoodS fun _ => False := by
  refine ⟨fun a _ m => m.1.elim, fun a _ m => ?_⟩
  obtain ⟨_, ⟨c, c1, c2⟩, h3⟩ := m
  obtain ⟨d, _, _, _, d4⟩ := h3 c c1 c2
  exact d4.elim
theorem GoodS.any : ∀ {rs : List PSet}, (∀ r ∈ rs, GoodS r.1) → GoodS fun a => ∃ r ∈ rs, r.1 a
  | [], _ => GoodS.none.congr fun a _ => ⟨fun h => h.elim, fun ⟨_, h, _⟩ => by cases h⟩
  | r :: rs, h => by
    have h1 := GoodS.any (rs := rs) fun x hx => h x (List.mem_cons_of_mem _ hx)
    refine ((h r List.mem_cons_self).or h1).congr fun a _ => ?_
    constructor
    · rintro (k | ⟨x, hx, k⟩)
      · exact ⟨r, List.mem_cons_self, k⟩
      · exact ⟨x, List.mem_cons_of_mem _ hx, k⟩
    · rintro ⟨x, hx, k⟩
      rcases List.mem_cons.1 hx with rfl | hx
      · exact .inl k
      · exact .inr ⟨x, hx, k⟩
theorem GoodS.spans {l : List Iv} (h : ∀ x ∈ l, x.ne = true → NumsV x.lo ∧ NumsV x.hi ∧ (x.li = false → lexI (endL x.sp.1) (endL x.sp.2) < 0)) : GoodS fun a => inS cmC a (spansL l) := by
  have hv : ∀ s ∈ spansL l, VC1 s.1 ∧ VC1 s.2 := fun s hs => (spansL_ne s hs).2
  refine ⟨fun a ha m => ?_, fun a ha m => ?_⟩
  · obtain ⟨s, hs, rfl⟩ := m.mem lin_cut hv ha
    obtain ⟨x, hx, rfl⟩ := List.mem_map.1 hs
    obtain ⟨hx1, hx2⟩ := List.mem_filter.1 hx
    obtain ⟨n1, n2, n3⟩ := h x hx1 hx2
    have ne := ne_sp hx2
    refine ⟨n1, fun h2 b hb h4 h5 => ⟨x.sp, hs, by omega, ?_⟩⟩
    have h6 : x.li = false := by simpa [Iv.sp] using h2
    have h7 := n3 h6
    have an := lin_cut.anti b x.sp.2
    by_cases e0 : cmC b x.sp.2 = 0
    · have := lin_cut.eq b x.sp.2 hb.1 ne.2.2 e0
      rw [this] at h5
      exact absurd h7 h5
    · by_cases e1 : cmC b x.sp.2 < 0
      · exact e1
      · have k := (end_le (a := x.sp.2) (b := b) ⟨ne.2.2, n2⟩ hb (by omega)).1
        exact absurd (lexI_lt_le h7 k) h5
  · obtain ⟨s, hs, rfl⟩ := m.mem lin_cut hv ha
    obtain ⟨x, hx, rfl⟩ := List.mem_map.1 hs
    obtain ⟨hx1, hx2⟩ := List.mem_filter.1 hx
    exact (h x hx1 hx2).2.1

theorem nums_leaf {k n : Int} {t : ByteArray} (h : In64 n) : NumsV (.mk k n t [] []) := (NumsV_iff _).2 ⟨h, by simp [Val.l], by simp [Val.d]⟩
theorem nums_least (k : Int) : NumsV (leastV k) := by
  unfold leastV vKd
  split
  · exact nums_leaf (by unfold In64; decide)
  · split <;> exact nums_leaf (by unfold In64; decide)
theorem nums_range (k : Int) : NumsV (rangeI k).lo ∧ NumsV (rangeI k).hi ∧ (rangeI k).li = true := by
  unfold rangeI
  split
  · exact ⟨nums_least k, nums_leaf (by unfold In64; decide), rfl⟩
  · split
    · exact ⟨nums_least k, nums_leaf (by unfold In64; decide), rfl⟩
    · split
      · exact ⟨nums_least k, nums_least _, rfl⟩
      · exact ⟨nums_least k, nums_least k, rfl⟩
/-- the code of the least value of the next kind -/
theorem enc_least {k : Int} (h : k = 4 ∨ k = 5 ∨ k = 7 ∨ k = 8) : ∃ y r, encV (leastV (k + 1)) = (k + 1) :: y :: r := by
  rcases h with rfl | rfl | rfl | rfl
  · exact ⟨_, _, by rw [encV_eq]; rfl⟩
  · exact ⟨_, _, by rw [encV_eq]; rfl⟩
  · exact ⟨_, _, by rw [encV_eq]; rfl⟩
  · exact ⟨_, _, by rw [encV_eq]; rfl⟩
theorem gt_end {x : Val} (hv : validV x = true) (hn : NumsV x) (h6 : x.k ≠ 6) (hlt : cmC (x, true) ((rangeI x.k).hi, (rangeI x.k).hin) < 0) (hh : validV (rangeI x.k).hi = true) :
    lexI (endL (x, true)) (endL ((rangeI x.k).hi, (rangeI x.k).hin)) < 0 := by
  have hb : VO ((rangeI x.k).hi, (rangeI x.k).hin) := ⟨hh, (nums_range x.k).2.1⟩
  have ha : VO (x, true) := ⟨hv, hn⟩
  have hk := kind_range hv
  by_cases hin : (rangeI x.k).hin = true
  · exact (end_le ha hb hlt).2 fun h => by have := h.2; simp only at this; rw [hin] at this; simp at this
  · have k4 : x.k = 4 ∨ x.k = 5 ∨ x.k = 7 ∨ x.k = 8 := by
      unfold rangeI at hin
      split at hin
      · simp at hin
      · split at hin
        · simp at hin
        · split at hin
          · omega
          · simp at hin
    have e : rangeI x.k = ⟨leastV x.k, leastV (x.k + 1), true, false⟩ := by
      unfold rangeI
      rw [if_neg (by omega), if_neg (by omega), if_pos (by omega)]
    rw [e]
    obtain ⟨y, r, hy⟩ := enc_least k4
    obtain ⟨t, ht⟩ := ha.after
    obtain ⟨T, hT⟩ : ∃ T, encV x = x.k :: T := ⟨_, encV_eq _⟩
    unfold endL
    simp only [if_true, Bool.false_eq_true, if_false]
    rw [hy]
    simp only at ht
    rw [ht, Option.getD_some]
    rw [hT] at ht
    unfold afterL at ht
    cases hr : afterL T with
    | some u =>
      rw [hr] at ht
      simp only [Option.some.injEq] at ht
      subst ht
      rw [lexI_lt (by omega)]
      omega
    | none =>
      rw [hr] at ht
      simp only at ht
      rw [if_neg (by omega)] at ht
      simp only [Option.some.injEq] at ht
      subst ht
      rw [lexI_cons]
      simp [lexI]
theorem allS_good : GoodS allS := GoodS.spans (l := [allIv]) fun x hx _ => by
  obtain rfl : x = allIv := by simpa using hx
  exact ⟨nums_leaf (by unfold In64; decide), nums_leaf (by unfold In64; decide), fun h => by simp [allIv] at h⟩
theorem pt_good {v : Val} (h : NumsV v) : NumsV (ptIv v).lo ∧ NumsV (ptIv v).hi ∧ ((ptIv v).li = false → lexI (endL (ptIv v).sp.1) (endL (ptIv v).sp.2) < 0) := ⟨h, h, fun h => by simp [ptIv] at h⟩
theorem leaf_good {op n : Int} {arg : Val} {args : List Val} {r : List Iv × Bool} (h : leafI op arg args n = some r) (hn : NumsV arg) (hs : ∀ x ∈ args, NumsV x) : GoodS fun a => inS cmC a (spansL r.1) := by
  unfold leafI at h
  split at h
  · split at h
    · simp at h
    · obtain rfl := Option.some.inj h
      exact GoodS.spans fun x hx _ => by
        obtain rfl : x = ptIv arg := by simpa using hx
        exact pt_good hn
  · split at h
    · rename_i hop
      split at h
      · simp at h
      · rename_i h6
        obtain rfl := Option.some.inj h
        refine GoodS.spans fun x hx hne => ?_
        obtain rfl : x = limI op arg := by simpa using hx
        have hr := nums_range arg.k
        unfold limI at hne ⊢
        by_cases h45 : op = 4 ∨ op = 5
        · rw [if_pos h45] at hne ⊢
          refine ⟨hn, hr.2.1, fun h5 => ?_⟩
          have hp := ne_sp hne
          simp only [Iv.sp] at hp ⊢
          simp only at h5
          rw [h5] at hp ⊢
          exact gt_end hp.2.1 hn h6 hp.1 hp.2.2
        · rw [if_neg h45]
          exact ⟨hr.1, hn, fun h5 => by simp only at h5; rw [hr.2.2] at h5; simp at h5⟩
    · split at h
      · split at h
        · simp at h
        · obtain rfl := Option.some.inj h
          exact GoodS.spans fun x hx _ => by
            obtain ⟨v, hv, rfl⟩ := List.mem_map.1 hx
            exact pt_good (hs v hv)
      · split at h
        · obtain rfl := Option.some.inj h
          refine GoodS.spans fun x hx _ => ?_
          obtain rfl : x = (preI arg).1 := by simpa using hx
          unfold preI
          split
          · split
            · exact ⟨hn, nums_leaf (by unfold In64; decide), fun h => by simp at h⟩
            · exact ⟨hn, nums_leaf (by unfold In64; decide), fun h => by simp at h⟩
          · exact ⟨hn, nums_leaf (by unfold In64; decide), fun h => by simp at h⟩
        · split at h
          · split at h
            · simp at h
            · obtain rfl := Option.some.inj h
              refine GoodS.spans fun x hx _ => ?_
              obtain rfl : x = rangeI n := by simpa using hx
              have hr := nums_range n
              exact ⟨hr.1, hr.2.1, fun h => by rw [hr.2.2] at h; simp at h⟩
          · simp at h
theorem firstS_good : ∀ {rs : List PSet}, (∀ r ∈ rs, GoodS r.1) → GoodS (firstS rs).1
  | [], _ => allS_good
  | r :: rs, h => by
    unfold firstS
    split
    · exact firstS_good fun x hx => h x (by simp [hx])
    · exact h r (by simp)
/-- the set of a predicate at a path -/
theorem ofS_good (l : List ByteArray) : ∀ {p : PrT}, NumsP p → GoodS (ofS l p).1 := by
  intro p
  induction p using PrT.ind with
  | h p ih =>
    intro hn
    obtain ⟨n1, n2, n3⟩ := (NumsP_iff p).1 hn
    have hk : ∀ r ∈ p.kids.map (ofS l), GoodS r.1 := by
      intro r hr
      obtain ⟨k, hk, rfl⟩ := List.mem_map.1 hr
      exact ih k hk (n3 k hk)
    by_cases h20 : p.op = 20
    · rw [ofS_and h20]
      unfold andS
      split
      · rename_i r e
        exact hk r (by rw [e]; simp)
      · exact firstS_good hk
    · by_cases h21 : p.op = 21
      · rw [ofS_or h21]
        unfold orS
        split
        · exact allS_good
        · exact GoodS.any hk
      · by_cases hp : p.path.xs = l
        · rw [ofS_leaf h20 h21 hp]
          unfold leafS
          split
          · rename_i r e
            exact leaf_good e n1 fun x hx => by
              obtain ⟨y, hy, rfl⟩ := List.mem_map.1 hx
              exact n2 y hy
          · exact allS_good
        · rw [ofS_else h20 h21 hp]
          exact allS_good
/-- the spans of a normal form of a good set: no range between their ends is empty -/
theorem GoodS.nf {S : Cut → Prop} (h : GoodS S) {m : List (Cut × Cut)} (hm : IsNF S m) {s : Cut × Cut} (hs : s ∈ m) : VO s.1 ∧ VO s.2 ∧ lexI (endL s.1) (endL s.2) < 0 := by
  have ne := hm.1.ne s hs
  have l1 : LoE cmC VC1 S s.1 := (hm.1.lo lin_cut hs).congr ne.2.1 fun a _ => hm.2 a
  have l2 : HiE cmC VC1 S s.2 := (hm.1.hi lin_cut hs).congr ne.2.2 fun a _ => hm.2 a
  obtain ⟨g1, g2⟩ := h.lo _ ne.2.1 l1
  have v1 : VO s.1 := ⟨ne.2.1, g1⟩
  have v2 : VO s.2 := ⟨ne.2.2, h.hi _ ne.2.2 l2⟩
  refine ⟨v1, v2, ?_⟩
  by_cases hc : lexI (endL s.1) (endL s.2) < 0
  · exact hc
  · by_cases h2 : s.1.2 = true
    · exact absurd (g2 h2 _ v2 ne.1 hc) l2.1
    · exact (end_le v1 v2 ne.1).2 fun k => h2 k.1
end Go.Proofs.YtfkapannahcjiaaGreatDoor



/- The ranges of encoded keys of a predicate's intervals ascend, none is empty. Plain law. -/
namespace Go.Proofs.YtfkapannahcjiaaGreatDoor

abbrev ltB (a b : ByteArray) : Prop := cmpB a b < 0
theorem sord_B : SOrd ltB := by
  refine ⟨fun a => ?_, fun {a b c} h k => ?_, fun a b => ?_⟩
  · show ¬ cmpB a a < 0
    rw [cmpB_zero.2 rfl]; omega
  · have := cmpB_tr a b c
    unfold TR at this
    show cmpB a c < 0
    have h' : cmpB a b < 0 := h
    have k' : cmpB b c < 0 := k
    omega
  · show cmpB a b < 0 ∨ a = b ∨ cmpB b a < 0
    have := cmpB_anti a b
    by_cases h : cmpB a b = 0
    · exact .inr (.inl (cmpB_zero.1 h))
    · omega
theorem strOf_nil : strOfNums [] = ByteArray.empty := rfl
theorem strOf_ne {l : List Int} (h : l ≠ []) : strOfNums l ≠ ByteArray.empty := by
  intro e
  have := congrArg (fun b => b.data.toList.length) e
  simp only [strOfNums_data] at this
  simp at this
  exact h this
theorem ltB_empty {l : List Int} (hl : Rng l) (h : l ≠ []) : ltB ByteArray.empty (strOfNums l) := by
  show cmpB _ _ < 0
  rw [← strOf_nil, cmp_str Rng.nil hl]
  cases l with
  | nil => exact absurd rfl h
  | cons a r => simp [lexI]
theorem afterL_ne : ∀ {l t : List Int}, afterL l = some t → t ≠ []
  | [], t, h => by simp [afterL] at h
  | x :: r, t, h => by
    unfold afterL at h
    split at h
    · simp at h; subst h; simp
    · split at h
      · simp at h
      · simp at h; subst h; simp
theorem VO.ne {a : Cut} (h : VO a) : endL a ≠ [] := by
  unfold endL
  obtain ⟨t, ht⟩ := h.after
  split
  · rw [ht]; exact afterL_ne ht
  · rw [encV_eq]; simp
open Classical in
/-- the lower and the upper bound of a range of keys -/
noncomputable def keyLo (a : Cut) : ByteArray := if a = (vMin, false) then ByteArray.empty else strOfNums (endL a)
open Classical in
noncomputable def keyHi (a : Cut) : ByteArray := if a = (vMax, true) then ByteArray.empty else strOfNums (endL a)
noncomputable def keyP (s : Cut × Cut) : ByteArray × ByteArray := (keyLo s.1, keyHi s.2)
theorem keyLo_lt {a b : Cut} (hb : VO b) (h : a = (vMin, false) ∨ (VO a ∧ lexI (endL a) (endL b) < 0)) : ltB (keyLo a) (strOfNums (endL b)) := by
  unfold keyLo
  by_cases e : a = (vMin, false)
  · rw [if_pos e]; exact ltB_empty hb.erng hb.ne
  · rw [if_neg e]
    obtain ⟨h1, h2⟩ := h.resolve_left e
    show cmpB _ _ < 0
    rw [cmp_str h1.erng hb.erng]
    exact h2
theorem after_lo {a b : Cut} (ha : VC1 a) (h : cmC a b < 0) : b ≠ (vMin, false) := by
  rintro rfl
  have h1 := min_le ha
  have := lin_cut.anti a (vMin, false)
  omega
theorem before_hi {a b : Cut} (hb : VC1 b) (h : cmC a b < 0) : a ≠ (vMax, true) := by
  rintro rfl
  have h1 := le_max hb
  have := lin_cut.anti b (vMax, true)
  omega
section
variable {S : Cut → Prop} {m : List (Cut × Cut)}
theorem keys_asc (g : GoodS S) (h : IsNF S m) : AscR ltB (m.map keyP) := by
  unfold AscR
  rw [List.pairwise_map]
  refine List.Pairwise.imp_of_mem (fun {s t} hs ht hst => ?_) h.1.ord
  obtain ⟨s1, s2, s3⟩ := g.nf h hs
  obtain ⟨t1, t2, t3⟩ := g.nf h ht
  have e : keyLo t.1 = strOfNums (endL t.1) := if_neg (after_lo s2.1 hst)
  show ltB (keyLo s.1) (keyLo t.1)
  rw [e]
  exact keyLo_lt t1 (.inr ⟨s1, lexI_lt_le s3 (end_le s2 t1 hst).1⟩)
theorem keys_step (g : GoodS S) (h : IsNF S m) : StepR ltB ByteArray.empty (m.map keyP) := by
  refine ⟨fun x hx => ?_, fun i x y hx hy => ?_⟩
  · obtain ⟨s, hs, rfl⟩ := List.mem_map.1 hx
    obtain ⟨s1, s2, s3⟩ := g.nf h hs
    by_cases e : s.2 = (vMax, true)
    · exact .inl (if_pos e)
    · refine .inr ?_
      show ltB (keyLo s.1) (keyHi s.2)
      rw [show keyHi s.2 = strOfNums (endL s.2) from if_neg e]
      exact keyLo_lt s2 (.inr ⟨s1, s3⟩)
  · rw [List.getElem?_map] at hx hy
    obtain ⟨s, hs, rfl⟩ := Option.map_eq_some_iff.1 hx
    obtain ⟨t, ht, rfl⟩ := Option.map_eq_some_iff.1 hy
    obtain ⟨s1, s2, s3⟩ := g.nf h (List.mem_of_getElem? hs)
    obtain ⟨t1, t2, t3⟩ := g.nf h (List.mem_of_getElem? ht)
    have hi := (List.getElem?_eq_some_iff.1 hs).1
    have hj := (List.getElem?_eq_some_iff.1 ht).1
    have hst : cmC s.2 t.1 < 0 := by
      have := List.pairwise_iff_getElem.1 h.1.ord i (i + 1) hi hj (by omega)
      rw [(List.getElem?_eq_some_iff.1 hs).2, (List.getElem?_eq_some_iff.1 ht).2] at this
      exact this
    have e1 : keyHi s.2 = strOfNums (endL s.2) := if_neg (before_hi t1.1 hst)
    have e2 : keyLo t.1 = strOfNums (endL t.1) := if_neg (after_lo s2.1 hst)
    show keyHi s.2 ≠ ByteArray.empty ∧ ¬ ltB (keyLo t.1) (keyHi s.2)
    rw [e1, e2]
    refine ⟨strOf_ne s2.ne, ?_⟩
    show ¬ cmpB _ _ < 0
    rw [cmp_str t1.erng s2.erng]
    have := (end_le s2 t1 hst).1
    have := lexI_anti (endL s.2) (endL t.1)
    omega
end

/-- the range of a hashed key -/
def hashL (n : Int) : List Int := 3 :: nums n
def keyH (n : Int) : ByteArray × ByteArray := (strOfNums (hashL n), strOfNums ((afterL (hashL n)).getD []))
theorem hash_rng (n : Int) : Rng (hashL n) := Rng.cons (by omega) (rng_nums n)
theorem hash_after (n : Int) : ∃ t, afterL (hashL n) = some t := afterL_some (x := 3) (by simp [hashL]) (by omega)
theorem hash_order {n m : Int} (hn : In64 n) (hm : In64 m) (a b : List Int) : lexI (hashL n ++ a) (hashL m ++ b) = orI (cmpI n m) (lexI a b) := by
  unfold hashL
  rw [List.cons_append, List.cons_append, lexI_cons, nums_order hn hm]
theorem hash_lt {n m : Int} (hn : In64 n) (hm : In64 m) (h : ltB (keyH n).1 (keyH m).1) : cmpI n m < 0 := by
  have h' : cmpB (strOfNums (hashL n)) (strOfNums (hashL m)) < 0 := h
  rw [cmp_str (hash_rng n) (hash_rng m)] at h'
  have := hash_order hn hm [] []
  rw [List.append_nil, List.append_nil] at this
  rw [this] at h'
  unfold orI at h'
  split at h'
  · exact h'
  · simp [lexI] at h'
theorem hash_step {l : List (ByteArray × ByteArray)} (hl : ∀ x ∈ l, ∃ n, In64 n ∧ x = keyH n) (ha : AscR ltB l) : StepR ltB ByteArray.empty l := by
  refine ⟨fun x hx => ?_, fun i x y hx hy => ?_⟩
  · obtain ⟨n, hn, rfl⟩ := hl x hx
    obtain ⟨t, ht⟩ := hash_after n
    refine .inr ?_
    show cmpB (strOfNums (hashL n)) (strOfNums ((afterL (hashL n)).getD [])) < 0
    rw [ht, Option.getD_some, cmp_str (hash_rng n) (rng_after (hash_rng n) ht)]
    have := afterL_gt ht []
    rwa [List.append_nil] at this
  · obtain ⟨n, hn, rfl⟩ := hl x (List.mem_of_getElem? hx)
    obtain ⟨m, hm, rfl⟩ := hl y (List.mem_of_getElem? hy)
    obtain ⟨t, ht⟩ := hash_after n
    have hi := (List.getElem?_eq_some_iff.1 hx).1
    have hj := (List.getElem?_eq_some_iff.1 hy).1
    have hlt : ltB (keyH n).1 (keyH m).1 := by
      have := List.pairwise_iff_getElem.1 ha i (i + 1) hi hj (by omega)
      rw [(List.getElem?_eq_some_iff.1 hx).2, (List.getElem?_eq_some_iff.1 hy).2] at this
      exact this
    have hnm := hash_lt hn hm hlt
    show strOfNums ((afterL (hashL n)).getD []) ≠ ByteArray.empty ∧ ¬ cmpB (strOfNums (hashL m)) (strOfNums ((afterL (hashL n)).getD [])) < 0
    rw [ht, Option.getD_some]
    refine ⟨strOf_ne (afterL_ne ht), ?_⟩
    rw [cmp_str (hash_rng m) (rng_after (hash_rng n) ht)]
    have h1 : lexI t (hashL m) ≤ 0 := afterL_le ht (hash_rng m) fun a => by
      have := hash_order hn hm a []
      rw [List.append_nil] at this
      rw [this, orI_ne (by omega)]
      exact hnm
    have := lexI_anti t (hashL m)
    omega
/-- equal lower bounds, equal ranges -/
theorem hash_same {n m : Int} (h : (keyH n).1 = (keyH m).1) : keyH n = keyH m := by
  have h1 : cmpB (strOfNums (hashL n)) (strOfNums (hashL m)) = 0 := cmpB_zero.2 h
  rw [cmp_str (hash_rng n) (hash_rng m)] at h1
  have := lexI_eq h1
  unfold keyH
  rw [this]
end Go.Proofs.YtfkapannahcjiaaGreatDoor



/- Stable sorting in plain words: elements bear their place; the sorted list is the one in which all pairs stand in order. -/
namespace Go.Proofs.YtfkapannahcjiaaGreatDoor

/-- a comparison that is a total order up to equality -/
structure Ordered {α : Type} (cm : α → α → Int) : Prop where
  anti : ∀ x y, cm y x = -cm x y
  tr : ∀ x y z, TR (cm x y) (cm y z) (cm x z)

section
variable {α : Type} (cm : α → α → Int)

/-- the order of tagged elements -/
def RT (x y : α × Nat) : Prop := cm x.1 y.1 < 0 ∨ cm x.1 y.1 = 0 ∧ x.2 < y.2
variable {cm}
theorem RT.trans (H : Ordered cm) {x y z : α × Nat} (h1 : RT cm x y) (h2 : RT cm y z) : RT cm x z := by
  unfold RT at *
  have := H.tr x.1 y.1 z.1 (by omega) (by omega)
  omega
/-- the tags of a list rise -/
def Tagged (l : List (α × Nat)) : Prop := l.Pairwise fun x y => x.2 < y.2
/-- S is l sorted -/
structure Sorted (cm : α → α → Int) (l S : List (α × Nat)) : Prop where
  perm : S.Perm l
  ord : S.Pairwise (RT cm)
theorem Sorted.nil : Sorted cm ([] : List (α × Nat)) [] := ⟨.nil, .nil⟩
theorem Sorted.one (x : α × Nat) : Sorted cm [x] [x] := ⟨.refl _, by simp⟩
/-- an element has come down to its place -/
theorem Sorted.insert (H : Ordered cm) {P S1 S2 : List (α × Nat)} {x : α × Nat} (h : Sorted cm P (S1 ++ S2)) (ht : ∀ y ∈ P, y.2 < x.2) (h2 : ∀ y ∈ S2, cm x.1 y.1 < 0) (h1 : ∀ y, S1.getLast? = some y → ¬ cm x.1 y.1 < 0) : Sorted cm (P ++ [x]) (S1 ++ x :: S2) := by
  refine ⟨?_, ?_⟩
  · have e1 : (S1 ++ x :: S2).Perm (x :: (S1 ++ S2)) := List.perm_middle
    have e2 : (x :: (S1 ++ S2)).Perm (x :: P) := h.perm.cons x
    have e3 : (x :: P).Perm (P ++ [x]) := (List.perm_append_singleton x P).symm
    exact e1.trans (e2.trans e3)
  · have ho := h.ord
    rw [List.pairwise_append] at ho ⊢
    refine ⟨ho.1, ?_, ?_⟩
    · rw [List.pairwise_cons]
      exact ⟨fun y hy => .inl (h2 y hy), ho.2.1⟩
    · intro y hy z hz
      rcases List.mem_cons.1 hz with rfl | hz
      · have hyP : y ∈ P := h.perm.subset (by simp [hy])
        rcases List.eq_nil_or_concat S1 with rfl | ⟨S, q, rfl⟩
        · simp at hy
        · have hq : ¬ cm z.1 q.1 < 0 := h1 q (by simp)
          have hqP : q ∈ P := h.perm.subset (by simp)
          have hqz : RT cm q z := by
            unfold RT
            have := H.anti z.1 q.1
            have := ht q hqP
            omega
          simp only [List.concat_eq_append, List.mem_append, List.mem_singleton] at hy
          rcases hy with hy | rfl
          · have : RT cm y q := by
              have h3 := ho.1
              simp only [List.concat_eq_append] at h3
              rw [List.pairwise_append] at h3
              exact h3.2.2 y hy q (by simp)
            exact RT.trans H this hqz
          · exact hqz
      · exact ho.2.2 y hy z hz
/-- positions as tags -/
def tagFrom : Nat → List α → List (α × Nat)
  | _, [] => []
  | n, x :: r => (x, n) :: tagFrom (n + 1) r
theorem tagFrom_map (l : List α) : ∀ n, (tagFrom n l).map Prod.fst = l := by
  induction l with
  | nil => intro n; rfl
  | cons x r ih => intro n; simp [tagFrom, ih]
theorem tagFrom_ge (l : List α) : ∀ n, ∀ y ∈ tagFrom n l, n ≤ y.2 := by
  induction l with
  | nil => intro n y hy; simp [tagFrom] at hy
  | cons x r ih =>
    intro n y hy
    simp only [tagFrom, List.mem_cons] at hy
    rcases hy with rfl | hy
    · exact Nat.le_refl _
    · have := ih (n + 1) y hy; omega
theorem tagFrom_tagged (l : List α) : ∀ n, Tagged (tagFrom n l) := by
  induction l with
  | nil => intro n; simp [tagFrom, Tagged]
  | cons x r ih =>
    intro n
    simp only [tagFrom, Tagged, List.pairwise_cons]
    exact ⟨fun y hy => by have := tagFrom_ge r (n + 1) y hy; show n < y.2; omega, ih (n + 1)⟩
theorem tagFrom_length (l : List α) : ∀ n, (tagFrom n l).length = l.length := by
  induction l with
  | nil => intro n; rfl
  | cons x r ih => intro n; simp [tagFrom, ih]
end

theorem flat_set {α : Type} {rec : α → List Value} {s : Nat} (hs : ∀ a, (rec a).length = s) : ∀ (l : List α) (j : Nat) (a : α), j < l.length → flat rec (l.set j a) = setList (flat rec l) (j * s) (rec a) := by
  intro l
  induction l with
  | nil => intro j a h; simp at h
  | cons x r ih =>
    intro j a h
    have e : ∀ (y : α) (t : List α), flat rec (y :: t) = rec y ++ flat rec t := fun _ _ => rfl
    have hl := flat_length hs (x :: r)
    have hlr := flat_length hs r
    simp only [List.length_cons] at hl h
    have hm : (j + 1) * s ≤ (r.length + 1) * s := Nat.mul_le_mul_right s (by omega)
    rw [Nat.add_mul] at hm
    rw [setList_eq _ _ _ (by rw [hs, hl]; omega), hs]
    cases j with
    | zero =>
      rw [List.set_cons_zero, e, e]
      simp [hs]
    | succ j =>
      have hm2 : (j + 1) * s ≤ r.length * s := Nat.mul_le_mul_right s (by omega)
      rw [Nat.add_mul] at hm2
      rw [List.set_cons_succ, e, e, ih j a (by omega), setList_eq _ _ _ (by rw [hs, hlr]; omega), hs, show (j + 1) * s = s + j * s by rw [Nat.add_mul]; omega]
      have e1 : (rec x ++ flat rec r).take (s + j * s) = rec x ++ (flat rec r).take (j * s) := by
        have := List.take_length_add_append (l₁ := rec x) (l₂ := flat rec r) (j * s)
        rwa [hs] at this
      have e2 : (rec x ++ flat rec r).drop (s + j * s + s) = (flat rec r).drop (j * s + s) := by
        have := List.drop_length_add_append (l₁ := rec x) (l₂ := flat rec r) (j * s + s)
        rw [hs] at this
        rw [show s + j * s + s = s + (j * s + s) by omega]
        exact this
      rw [e1, e2]
      simp only [List.append_assoc]

end Go.Proofs.YtfkapannahcjiaaGreatDoor


