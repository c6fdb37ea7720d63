/- Parts of the proof, joined: ShSplit, ShParK, ShShelf, ShPath, ShParse, ShParseR, ShFormed, ShFormsWalk, ShFormsLaw. -/
import Derived.Test.YtlmmgjgkmbmgpaaGreatDoorB4
import Derived.Test.YtlmmgjgkmbmgpaaGreatDoorC1
import Derived.Test.YtlmmgjgkmbmgpaaGreatDoorProg
import Derived.Test.YtlmmgjgkmbmgpaaGreatDoorB3
import Derived.Test.YtlmmgjgkmbmgpaaGreatDoorB17
import Derived.Test.YtlmmgjgkmbmgpaaGreatDoorB18
import Derived.Test.YtlmmgjgkmbmgpaaGreatDoorB10
import Derived.Test.YtlmmgjgkmbmgpaaGreatDoorB6
import Derived.Test.YtlmmgjgkmbmgpaaGreatDoorCards
import Derived.Test.YtlmmgjgkmbmgpaaGreatDoorTie
import Derived.Shelf.LaysM
import Derived.Shelf.Strings.Split
import Derived.Shelf.Strings.SplitShaped
import Derived.Ground.Names2Prog
import Derived.Lib.LaidIn
import Derived.Lib.LaidU8T
import Derived.PinnedBridge
import Derived.Deep.DeepHandedRow
import Derived.Deep.DeepWitnessRowRef
import Derived.ProofKit
import Derived.SizedLaws
import Derived.OpenShut
import Derived.ShutString
import Derived.ChangeOld
import Derived.Below
import Derived.SevenTiedAt
/- The contracts of the reference's split and Parse of paths. -/
namespace Go.Proofs.YtlmmgjgkmbmgpaaGreatDoor
open Go.RowKit

theorem alloc_le4 {a : Nat} {w : World} (h : a ≤ w.heap.size) (o : Obj) : a ≤ (w.alloc o).heap.size := by simp; omega
/-- a list of texts in a row of the call's own, or nil -/
structure OT4 (w : World) (v : Value) (l : List ByteArray) (wr : World) : Prop where
  own : wr.ownsRow w.heap.size 9 1 v l.length (flat recT l)
  bel : Below w.heap.size w wr
theorem OT4.step {w wr w1 : World} {v : Value} {l : List ByteArray} (h : OT4 w v l wr) (hb : Below wr.heap.size wr w1) : OT4 w v l w1 := ⟨own_step h.own hb, h.bel.step' hb⟩
theorem OT4.add {w wr w' : World} {v v' : Value} {l : List ByteArray} {x : ByteArray} {m : Nat} (h : OT4 w v l wr) (hm : m = l.length + 1) (ho : w'.ownsRow w.heap.size 9 1 v' m (flat recT l ++ recT x)) (hg : wr.grownBy w' v.ownBlock) : OT4 w v' (l ++ [x]) w' := by
  subst hm
  exact ⟨by rw [flat_snoc, List.length_append]; exact ho, h.bel.grown hg h.bel.size (own_ge h.own)⟩
theorem OT4.st {w wr : World} {v : Value} {l : List ByteArray} (h : OT4 w v l wr) (hz : l.length ≤ 100000) (hs : ∀ s ∈ l, s.size ≤ reach) : ∃ A c, v = .slice A l.length c ∧ ST wr A l.length c l ∧ ∀ b off, A = some ⟨b, off, none⟩ → w.heap.size ≤ b := by
  obtain ⟨A, c, e, hr⟩ := SR.of_own recT_length h.own rfl
  exact ⟨A, c, e, ⟨hr, by unfold reach; omega, hs⟩, fun b off ea => own_ge h.own b (by rw [e, ea]; rfl)⟩
theorem dot_at {s : ByteArray} {i : Nat} (h : i < s.size) (hd : ((s[i].toNat : Int) == 46) = true) : s.data.toList[i]? = some 46 := by
  have h1 : s.data.toList[i]? = some s[i] := by
    obtain ⟨⟨l⟩⟩ := s
    exact List.getElem?_eq_getElem h
  rw [h1]
  congr 1
  apply UInt8.toNat_inj.1
  have : s[i].toNat = 46 := by simp at hd; omega
  rw [this]
  rfl
theorem dot_no {s : ByteArray} {i : Nat} (h : i < s.size) (hd : ((s[i].toNat : Int) == 46) = false) : s.data.toList[i]? ≠ some 46 := by
  have h1 : s.data.toList[i]? = some s[i] := by
    obtain ⟨⟨l⟩⟩ := s
    exact List.getElem?_eq_getElem h
  rw [h1]
  intro e
  injection e with e
  rw [e] at hd
  exact absurd hd (by decide)
theorem dot_end {s : ByteArray} {i j : Nat} (h : s.size ≤ i) (hj : i ≤ j) : s.data.toList[j]? ≠ some 46 := by
  rw [List.getElem?_eq_none (by rw [len_size]; omega)]
  intro e
  cases e

/-- what split and Parse hand back -/
def TextsOk (l : List ByteArray) (w : World) (e : Ending) (w' : World) : Prop := ∃ A n c, e = .returned (.slice A n c) ∧ ST w' A n c l ∧ (∀ b off, A = some ⟨b, off, none⟩ → w.heap.size ≤ b) ∧ Below w.heap.size w w'
def PathOk (s : ByteArray) (w : World) (e : Ending) (w' : World) : Prop :=
  ∃ A n c, e = .returned (.tuple #[.slice A n c, .int .i64 (if pathB (splitP s) = true then 0 else 10)]) ∧ (pathB (splitP s) = true → ST w' A n c (splitP s) ∧ ∀ b off, A = some ⟨b, off, none⟩ → w.heap.size ≤ b) ∧ Below w.heap.size w w'

set_option maxHeartbeats 2000000 in
theorem split04_any (s : ByteArray) (w : World) (hs : s.size ≤ 1000) : Calls Tryz.prog 114 #[.string s] w (TextsOk (splitP s) w) := by
  obtain ⟨j0, hj0, hy0, hy1, hy2⟩ := info_parts info_string
  go_enter Tryz.func114, Tryz.ntmps114
  go_wp2_with fail
  go_loopw [5, 4, 3] (fun v5 v4 v3 wr => ∃ (i f : Nat) (l : List ByteArray), f ≤ i ∧ i ≤ s.size ∧ v5 = .int .i64 i ∧ v4 = .int .i64 f ∧ OT4 w v3 l wr ∧ l.length ≤ i ∧ (∀ j : Nat, f ≤ j → j < i → s.data.toList[j]? ≠ some 46) ∧ splitP s = l ++ splitP (s.extract f s.size)) (fun v5 _ _ _ => s.size - (intOf v5).toNat)
  case atStart => exact ⟨0, 0, [], Nat.le_refl _, Nat.zero_le _, rfl, rfl, ⟨own_nil _ _ _ _, Below.refl _ _⟩, Nat.le_refl _, fun j _ hj => absurd hj (by omega), by rw [ext_all]; rfl⟩
  case round =>
    obtain ⟨i, f, l, hfi, hi, rfl, rfl, J, hl, hno, heq⟩ := hrel
    have J0 := Lib.hid J
    have HL := Lib.hid hl
    have HN := Lib.hid hno
    have HE := Lib.hid heq
    clear J hl hno heq
    by_cases hlt : i < s.size
    · have hx := s[i].toNat_lt
      have f0 : (0 : Int) ≤ (f : Int) := by omega
      have f1 : (f : Int) ≤ (i : Int) := by omega
      cases hd : ((s[i].toNat : Int) == 46)
      · have HN2 : Hid (∀ j : Nat, f ≤ j → j < i + 1 → s.data.toList[j]? ≠ some 46) := fun j h1 h2 => by
          rcases Nat.lt_or_ge j i with h | h
          · exact HN.out j h1 h
          · obtain rfl : j = i := by omega
            exact dot_no hlt hd
        go_wp2_with fail
        go_roundw
        case rel => exact ⟨i + 1, f, l, by omega, by omega, by go_num, rfl, J0.out, by have := HL.out; omega, HN2.out, HE.out⟩
        case measure => simp [intOf]; omega
      · have HE2 : Hid (splitP s = (l ++ [s.extract f i]) ++ splitP (s.extract (i + 1) s.size)) := by
          unfold Hid
          rw [HE.out, split_hit hfi (dot_at hlt hd) HN.out]
          simp
        have J2 := Lib.hid (J0.out.step ((Below.refl wr.heap.size wr).alloc (Nat.le_refl _) (Obj.cells #[.string (s.extract f i)] 9)))
        have hlo := Lib.hid J0.out.bel.size
        have hl1 : l.length ≤ 1000 := by have := HL.out; omega
        go_wp2_with (at_builtin; refine wpList_append_any _ rfl _ _ 48 rfl w.heap.size 9 j0 (.string ByteArray.empty) 1 16 Tryz.underlying48 hj0 hy0 hy1 hy2 rfl (by decide) u3 l.length (flat recT l) rfl J2.out.own _ _ 1 _ (recT (s.extract f i)) rfl ⟨rfl, fun _ => ⟨_, rfl, Nat.lt_succ_self _, news_at _ _ _⟩⟩ (recT_one _) (by unfold maxLen; omega) (by omega) (alloc_le4 hlo.out _) ?_)
        intro v' w6 hown hgr _
        have J3 := Lib.hid (J2.out.add rfl hown hgr)
        clear hown hgr J2
        go_wp2_with fail
        go_roundw
        case rel => exact ⟨i + 1, i + 1, l ++ [s.extract f i], Nat.le_refl _, by omega, by go_num, by go_num, J3.out, by rw [List.length_append]; have := HL.out; simp; omega, fun j h1 h2 => absurd h2 (by omega), HE2.out⟩
        case measure => simp [intOf]; omega
    · obtain rfl : i = s.size := by omega
      have HE2 : Hid (splitP s = l ++ [s.extract f s.size]) := by
        unfold Hid
        rw [HE.out, split_end fun j h1 => ?_]
        rcases Nat.lt_or_ge j s.size with h | h
        · exact HN.out j h1 h
        · exact dot_end (Nat.le_refl _) h
      have f0 : (0 : Int) ≤ (f : Int) := by omega
      have f1 : (f : Int) ≤ (s.size : Int) := by omega
      have J2 := Lib.hid (J0.out.step ((Below.refl wr.heap.size wr).alloc (Nat.le_refl _) (Obj.cells #[.string (s.extract f s.size)] 9)))
      have hlo := Lib.hid J0.out.bel.size
      have hl1 : l.length ≤ 1000 := by have := HL.out; omega
      go_wp2_with (at_builtin; refine wpList_append_any _ rfl _ _ 48 rfl w.heap.size 9 j0 (.string ByteArray.empty) 1 16 Tryz.underlying48 hj0 hy0 hy1 hy2 rfl (by decide) u3 l.length (flat recT l) rfl J2.out.own _ _ 1 _ (recT (s.extract f s.size)) rfl ⟨rfl, fun _ => ⟨_, rfl, Nat.lt_succ_self _, news_at _ _ _⟩⟩ (recT_one _) (by unfold maxLen; omega) (by omega) (alloc_le4 hlo.out _) ?_)
      intro v' w6 hown hgr _
      have J3 := J2.out.add rfl hown hgr
      clear hown hgr J2
      rw [← HE2.out] at J3
      obtain ⟨A1, c1, rfl, hst, hbk⟩ := J3.st (by have := split_le s; omega) (fun t ht => by have := split_small s t ht; unfold reach; omega)
      have HST := Lib.hid hst
      have HB := Lib.hid J3.bel
      have HBK := Lib.hid hbk
      clear J3 hst hbk
      go_wp2_with fail
      go_ret
      exact ⟨A1, _, c1, rfl, HST.out, HBK.out, HB.out⟩

set_option maxHeartbeats 1000000 in
theorem parse04_any (s : ByteArray) (w : World) (hs : s.size ≤ 1000) : Calls Tryz.prog 73 #[.string s] w (PathOk s w) := by
  go_enter Tryz.func73, Tryz.ntmps73
  go_wp2_with fail
  refine (split04_any s w hs).mono ?_
  rintro e w1 ⟨A, n, c, rfl, hst, hbk, hb⟩
  have HBK := Lib.hid hbk
  clear hbk
  have HST := Lib.hid hst
  have HB := Lib.hid hb
  clear hst hb
  go_wp2_with fail
  refine (rpath_any (splitP s) A n c w1 HST.out).mono ?_
  rintro e w2 ⟨rfl, rfl⟩
  cases hp : pathB (splitP s)
  · go_wp2_with fail
    go_ret2
    exact ⟨none, 0, 0, by rw [hp]; rfl, fun h => (by rw [hp] at h; cases h), HB.out⟩
  · go_wp2_with fail
    go_ret2
    exact ⟨A, n, c, by rw [hp]; rfl, fun _ => ⟨HST.out, HBK.out⟩, HB.out⟩

end Go.Proofs.YtlmmgjgkmbmgpaaGreatDoor

/- What a shard key under construction is. Printed by gen_shparse.py. -/
namespace Go.Proofs.YtlmmgjgkmbmgpaaGreatDoor
open Go.RowKit

theorem parL_path {f : Fld} {r : List Fld} {ks : List Od} {ha : Bool} (h : pathB (splitP f.s) = false) : parL (f :: r) ks ha = (([], false), 10) := by rw [parL, if_neg (by rw [h]; simp)]
theorem parL_one {f : Fld} {r : List Fld} {ks : List Od} {ha : Bool} (h : pathB (splitP f.s) = true) (h1 : isOne f.v = true) : parL (f :: r) ks ha = parL r (ks ++ [⟨splitP f.s, false⟩]) ha := by rw [parL, if_pos h, if_pos h1]
theorem parL_hash {f : Fld} {r : List Fld} {ks : List Od} {ha : Bool} (h : pathB (splitP f.s) = true) (h1 : isOne f.v = false) (h2 : isHash f.v = true) : parL (f :: r) ks ha = parL r (ks ++ [⟨splitP f.s, false⟩]) true := by rw [parL, if_pos h, if_neg (by rw [h1]; simp), if_pos h2]
theorem parL_form {f : Fld} {r : List Fld} {ks : List Od} {ha : Bool} (h : pathB (splitP f.s) = true) (h1 : isOne f.v = false) (h2 : isHash f.v = false) : parL (f :: r) ks ha = (([], false), 4) := by rw [parL, if_pos h, if_neg (by rw [h1]; simp), if_neg (by rw [h2]; simp)]
theorem hashL : hashT.toList = [104, 97, 115, 104, 101, 100] := by kernel_rfl
theorem parL_end {ks : List Od} {ha : Bool} : parL [] ks ha = if keyE ks ha = 0 then ((ks, ha), 0) else (([], false), keyE ks ha) := rfl

/-- two stores -/
abbrev setK (w : World) (g : Nat) (v : Value) (ha : Bool) : World := (w.setCell ⟨g, 0, none⟩ v).setCell ⟨g, 1, none⟩ (.bool ha)
theorem Blk.putK {w : World} {g : Nat} {t : TypeId} {v0 v : Value} {b0 ha : Bool} (h : Blk w g t #[v0, .bool b0]) : Blk (setK w g v ha) g t #[v, .bool ha] := (h.set_ 0 _).set_ 1 _
theorem below_setK {B : Nat} {a0 w : World} (h : Below B a0 w) {g : Nat} (hB : B ≤ g) (v : Value) (ha : Bool) : Below B a0 (setK w g v ha) := (h.setCell hB _).setCell hB _
theorem heap_setK (w : World) (g : Nat) (v : Value) (ha : Bool) (b : Nat) (h : b ≠ g) : (setK w g v ha).heap[b]? = w.heap[b]? := by
  unfold setK
  rw [Below.heap_setCell _ _ _ b h, Below.heap_setCell _ _ _ b h]
theorem load_key (g : Nat) (v : Value) (ha : Bool) (W : World) (q : Blk W g 24 #[v, .bool ha]) : (loadVar 24 ⟨g, 0, none⟩).run Tryz.prog W = .ok (.agg #[v, .bool ha]) W := by
  have q0 := q.cell 0
  have q1 := q.cell 1
  simp at q0 q1
  simp [go_sem, q0, q1]
theorem results_key_err {fn : Func} {p u : Tmp} (h : fn.results = #[.cell p 24, .tmp u]) (tmps : Array Value) (g1 : Nat) (h1 : tmps.getD p undef = .pointer (some ⟨g1, 0, none⟩)) (e : Value) (h2 : tmps.getD u undef = e)
    (W : World) (v : Value) (ha : Bool) (q : Blk W g1 24 #[v, .bool ha]) : (results fn tmps).run Tryz.prog W = .ok (.tuple #[.agg #[v, .bool ha], e]) W := by
  rw [results_cell_tmp h, h1, h2]
  simp [asAddr, load_key g1 v ha W q]

/-- a shard key in a variable of the call's own -/
structure PkI (w : World) (c : VC) (ks : List Od) (ha : Bool) (v : Value) (wr : World) : Prop where
  b0 : Blk wr w.heap.size 46 c.arr
  b1 : Blk wr (w.heap.size + 1) 24 #[.slice none 0 0, .bool false]
  b2 : Blk wr (w.heap.size + 2) 24 #[v, .bool ha]
  os : ∃ os : List OC, wr.ownsRow (w.heap.size + 3) 130 2 v os.length (flat recO os) ∧ os.length = ks.length ∧ ∀ (i : Nat) (o : OC) (q : Od), os[i]? = some o → ks[i]? = some q → ORF (fun b => w.heap.size + 3 ≤ b ∧ v.ownBlock ≠ some b) wr o q
  bel : Below w.heap.size w wr
theorem PkI.step {w wr w' : World} {c : VC} {ks : List Od} {ha : Bool} {v : Value} (h : PkI w c ks ha v wr) (hb : Below wr.heap.size wr w') : PkI w c ks ha v w' := by
  obtain ⟨os, h1, h2, h3⟩ := h.os
  exact ⟨h.b0.step hb, h.b1.step hb, h.b2.step hb, ⟨os, own_step h1 hb, h2, fun i o q hi hq => (h3 i o q hi hq).keep hb.size fun b hF hl => ⟨hF, hb.block b hl⟩⟩, h.bel.step' hb⟩
theorem PkI.start {w : World} {c : VC} : PkI w c [] false (.slice none 0 0) (((w.alloc (Obj.cells c.arr 46)).alloc (Obj.cells #[.slice none 0 0, .bool false] 24)).alloc (Obj.cells #[.slice none 0 0, .bool false] 24)) :=
  ⟨((Blk.new_at rfl).alloc _).alloc _, (Blk.new_at (by simp)).alloc _, Blk.new_at (by simp), ⟨[], own_nil _ _ _ _, rfl, fun i o q hi => by simp at hi⟩, (((Below.refl _ _).alloc (Nat.le_refl _) _).alloc (by simp) _).alloc (by simp; omega) _⟩
theorem PkI.flag {w wr : World} {c : VC} {ks : List Od} {ha : Bool} {v : Value} (h : PkI w c ks ha v wr) (b : Bool) : PkI w c ks b v (wr.setCell ⟨w.heap.size + 2, 1, none⟩ (.bool b)) := by
  obtain ⟨os, h1, h2, h3⟩ := h.os
  refine ⟨h.b0.far (by show w.heap.size ≠ w.heap.size + 2; omega) _, h.b1.far (by show w.heap.size + 1 ≠ w.heap.size + 2; omega) _, h.b2.set_ 1 _, ⟨os, own_far h1 (own_ne h1 (by show w.heap.size + 2 < _; omega)) _, h2, fun i o q hi hq => (h3 i o q hi hq).keep (by simp [World.setCell]) fun b hF _ => ⟨hF, Below.heap_setCell _ _ _ b (by show b ≠ w.heap.size + 2; omega)⟩⟩, h.bel.setCell (by show w.heap.size ≤ w.heap.size + 2; omega) _⟩
theorem PkI.add {w wa w' : World} {c : VC} {ks : List Od} {ha : Bool} {v v' : Value} {os : List OC} {o : OC} {q : Od} {m : Nat} (h : PkI w c ks ha v wa) (hlen : os.length = ks.length)
    (hel : ∀ (i : Nat) (o : OC) (q : Od), os[i]? = some o → ks[i]? = some q → ORF (fun b => w.heap.size + 3 ≤ b ∧ v.ownBlock ≠ some b) wa o q) (hv : wa.ownsRow (w.heap.size + 3) 130 2 v os.length (flat recO os))
    (hm : m = os.length + 1) (ho : w'.ownsRow (w.heap.size + 3) 130 2 v' m (flat recO os ++ recO o)) (hg : wa.grownBy w' v.ownBlock) (hat : v'.ownBlock = v.ownBlock ∨ v'.ownBlock = some wa.heap.size)
    (hq : ORF (fun b => w.heap.size + 3 ≤ b ∧ v.ownBlock ≠ some b) wa o q) : PkI w c (ks ++ [q]) ha v' (w'.setCell ⟨w.heap.size + 2, 0, none⟩ v') := by
  subst hm
  have n0 : some w.heap.size ≠ v.ownBlock := fun e => own_ne hv (g := w.heap.size) (by omega) e.symm
  have n1 : some (w.heap.size + 1) ≠ v.ownBlock := fun e => own_ne hv (g := w.heap.size + 1) (by omega) e.symm
  have n2 : some (w.heap.size + 2) ≠ v.ownBlock := fun e => own_ne hv (g := w.heap.size + 2) (by omega) e.symm
  have key : ∀ b, (w.heap.size + 3 ≤ b ∧ v.ownBlock ≠ some b) → b < wa.heap.size → (w.heap.size + 3 ≤ b ∧ v'.ownBlock ≠ some b) ∧ (w'.setCell ⟨w.heap.size + 2, 0, none⟩ v').heap[b]? = wa.heap[b]? := fun b hb hl => by
    refine ⟨⟨hb.1, ?_⟩, (Below.heap_setCell _ _ _ b (by show b ≠ w.heap.size + 2; omega)).trans (hg.block b hl fun e => hb.2 e.symm)⟩
    rcases hat with e | e <;> rw [e]
    · exact hb.2
    · intro e'
      injection e' with e'
      omega
  have hsz : wa.heap.size ≤ (w'.setCell ⟨w.heap.size + 2, 0, none⟩ v').heap.size := by have := hg.size; simpa [World.setCell] using this
  refine ⟨(h.b0.grown hg n0).far (by show w.heap.size ≠ w.heap.size + 2; omega) _, (h.b1.grown hg n1).far (by show w.heap.size + 1 ≠ w.heap.size + 2; omega) _, (h.b2.grown hg n2).set_ 0 _, ⟨os ++ [o], ?_, by simp [hlen], fun i o' q' hi hq' => ?_⟩, (h.bel.grown hg h.bel.size fun k hk => by have := own_ge hv k hk; omega).setCell (by show w.heap.size ≤ w.heap.size + 2; omega) _⟩
  · rw [flat_snoc, List.length_append]
    exact own_far ho (own_ne ho (by show w.heap.size + 2 < _; omega)) _
  · rcases Nat.lt_or_ge i os.length with hl | hl
    · rw [List.getElem?_append_left hl] at hi
      rw [List.getElem?_append_left (by omega)] at hq'
      exact (hel i o' q' hi hq').keep hsz key
    · rw [List.getElem?_append_right hl] at hi
      rw [List.getElem?_append_right (by omega)] at hq'
      have h0 : i - os.length = 0 := by
        rcases Nat.eq_zero_or_pos (i - os.length) with e | e
        · exact e
        · rw [List.getElem?_eq_none (by simp; omega)] at hi; cases hi
      rw [h0] at hi
      rw [show i - ks.length = 0 by omega] at hq'
      simp at hi hq'
      subst hi hq'
      exact hq.keep hsz key
theorem PkI.ks {w wr : World} {c : VC} {ks : List Od} {ha : Bool} {v : Value} (h : PkI w c ks ha v wr) (hz : ks.length ≤ 100000) : ∃ A cc, v = .slice A ks.length cc ∧ KS wr A ks.length cc ks := by
  obtain ⟨os, h1, h2, h3⟩ := h.os
  obtain ⟨A, cc, e, hs⟩ := SR.of_own recO_length h1 rfl
  rw [h2] at e hs
  exact ⟨A, cc, e, os, hs, by unfold reach; omega, h2, fun i o q hi hq => ⟨(h3 i o q hi hq).d, (h3 i o q hi hq).st.st⟩⟩

/-- what Parse hands back -/
def ParOk (x : Val) (w : World) (e : Ending) (w' : World) : Prop := ∃ A n c, e = .returned (.tuple #[.agg #[.slice A n c, .bool (parR x).1.2], .int .i64 (parR x).2]) ∧ KS w' A n c (parR x).1.1 ∧ Below w.heap.size w w'
theorem ParOk.err {x : Val} {w w' : World} {k : Int} (h : parR x = (([], false), k)) (hb : Below w.heap.size w w') : ParOk x w (.returned (.tuple #[.agg #[.slice none 0 0, .bool false], .int .i64 k])) w' := ⟨none, 0, 0, by rw [h], by rw [h]; exact KS.nil, hb⟩

end Go.Proofs.YtlmmgjgkmbmgpaaGreatDoor


/- The library's strings.Split: the shelf's contracts laid at this dump (lay-plain.mjs, gen_shshelf.py). -/
namespace Go.Proofs
open Go.Shelf
def Tryz.lays146_ren : Go.Shelf.Ren := ⟨fun | 146 => 112 | 221 => 162 | 268 => 186 | 138 => 187 | 143 => 188 | 195 => 209 | 197 => 210 | 218 => 211 | 219 => 212 | 260 => 223 | 217 => 224 | 225 => 225 | 224 => 226 | 267 => 227 | 266 => 234 | 314 => 235 | n => n, fun | 9 => 9 | 31 => 48 | 3 => 3 | 4 => 4 | 0 => 0 | 105 => 235 | 21 => 21 | 5 => 5 | 46 => 192 | 119 => 223 | 139 => 226 | 138 => 225 | 146 => 252 | 51 => 160 | n => n, fun | 1 => 0 | 3 => 1 | 4 => 2 | n => n⟩
theorem Tryz.lays146 : Go.Proofs.Lays.n146 Tryz.prog Tryz.lays146_ren := {
  mixed := by kernel_rfl
  f138 := Tryz.func187.trans (congrArg some (by kernel_rfl))
  f143 := Tryz.func188.trans (congrArg some (by kernel_rfl))
  f146 := Tryz.func112.trans (congrArg some (by kernel_rfl))
  f195 := Tryz.func209.trans (congrArg some (by kernel_rfl))
  f197 := Tryz.func210.trans (congrArg some (by kernel_rfl))
  f217 := Tryz.func224.trans (congrArg some (by kernel_rfl))
  f218 := Tryz.func211.trans (congrArg some (by kernel_rfl))
  f219 := Tryz.func212.trans (congrArg some (by kernel_rfl))
  f221 := Tryz.func162.trans (congrArg some (by kernel_rfl))
  f224 := Tryz.func226.trans (congrArg some (by kernel_rfl))
  f225 := Tryz.func225.trans (congrArg some (by kernel_rfl))
  f260 := Tryz.func223.trans (congrArg some (by kernel_rfl))
  f266 := Tryz.func234.trans (congrArg some (by kernel_rfl))
  f267 := Tryz.func227.trans (congrArg some (by kernel_rfl))
  f268 := Tryz.func186.trans (congrArg some (by kernel_rfl))
  f314 := Tryz.func235.trans (congrArg some (by kernel_rfl))
  t0 := Tryz.underlying0
  a0 := Tryz.isAgg0
  z0 := Tryz.sizeOf0
  v0 := Tryz.zeroValue0
  t3 := Tryz.underlying3
  a3 := Tryz.isAgg3
  z3 := Tryz.sizeOf3
  v3 := Tryz.zeroValue3
  t4 := Tryz.underlying4
  a4 := Tryz.isAgg4
  z4 := Tryz.sizeOf4
  v4 := Tryz.zeroValue4
  t5 := Tryz.underlying5
  a5 := Tryz.isAgg5
  z5 := Tryz.sizeOf5
  v5 := Tryz.zeroValue5
  t9 := Tryz.underlying9
  a9 := Tryz.isAgg9
  z9 := Tryz.sizeOf9
  v9 := Tryz.zeroValue9
  t21 := Tryz.underlying21
  a21 := Tryz.isAgg21
  z21 := Tryz.sizeOf21
  v21 := Tryz.zeroValue21
  t31 := Tryz.underlying48
  a31 := Tryz.isAgg48
  z31 := Tryz.sizeOf48
  v31 := Tryz.zeroValue48
  t46 := Tryz.underlying192
  a46 := Tryz.isAgg192
  z46 := Tryz.sizeOf192
  v46 := Tryz.zeroValue192
  t51 := Tryz.underlying160
  a51 := Tryz.isAgg160
  z51 := Tryz.sizeOf160
  v51 := Tryz.zeroValue160
  t105 := Tryz.underlying235
  a105 := Tryz.isAgg235
  z105 := Tryz.sizeOf235
  v105 := Tryz.zeroValue235
  t119 := Tryz.underlying223
  a119 := Tryz.isAgg223
  z119 := Tryz.sizeOf223
  t138 := Tryz.underlying225
  a138 := Tryz.isAgg225
  z138 := Tryz.sizeOf225
  v138 := Tryz.zeroValue225
  t139 := Tryz.underlying226
  a139 := Tryz.isAgg226
  z139 := Tryz.sizeOf226
  v139 := Tryz.zeroValue226
  t146 := Tryz.underlying252
  a146 := Tryz.isAgg252
  z146 := Tryz.sizeOf252
  v146 := Tryz.zeroValue252
  g1 := by kernel_rfl
  g3 := by kernel_rfl
  g4 := by kernel_rfl }
open Go.RowKit Go.Lib in
theorem Tryz.strings_Split (s sep : ByteArray) (m : Int) (w : World) (hs : s.size < 4294967281) (hm : w.cell? ⟨0, 0, none⟩ = some (.int .i64 m)) (h1 : 1 ≤ sep.size) :
    Calls Tryz.prog 112 #[.string s, .string sep] w fun e w' =>
      e = .returned (.slice (some ⟨w.heap.size, 0, none⟩) (Lib.countB s sep + 1) (Lib.countB s sep + 1)) ∧ w' = w.alloc (.cells ((Lib.splitB sep 0 (Lib.countB s sep) s).map Value.string).toArray 9) := Any.strings_Split Tryz.lays146 (by kernel_rfl) s sep m w hs hm h1
def Tryz.laysM146_ren : Go.Shelf.Ren := ⟨fun | 146 => 112 | 221 => 162 | 268 => 186 | 138 => 187 | 143 => 188 | 195 => 209 | 197 => 210 | 218 => 211 | 219 => 212 | 260 => 223 | 217 => 224 | 225 => 225 | 224 => 226 | 267 => 227 | 266 => 234 | 314 => 235 | n => n, fun | 9 => 9 | 31 => 48 | 3 => 3 | 4 => 4 | 0 => 0 | 105 => 235 | 21 => 21 | 5 => 5 | 46 => 192 | 119 => 223 | 139 => 226 | 138 => 225 | 146 => 252 | 51 => 160 | n => n, fun | 1 => 0 | 3 => 1 | 4 => 2 | n => n⟩
theorem Tryz.laysM146 : Go.Proofs.LaysM.n146 Tryz.prog Tryz.laysM146_ren := {
  mixed := by kernel_rfl
  f138 := Tryz.func187.trans (congrArg some (by kernel_rfl))
  f143 := Tryz.func188.trans (congrArg some (by kernel_rfl))
  f146 := Tryz.func112.trans (congrArg some (by kernel_rfl))
  f195 := Tryz.func209.trans (congrArg some (by kernel_rfl))
  f197 := Tryz.func210.trans (congrArg some (by kernel_rfl))
  f217 := Tryz.func224.trans (congrArg some (by kernel_rfl))
  f218 := Tryz.func211.trans (congrArg some (by kernel_rfl))
  f219 := Tryz.func212.trans (congrArg some (by kernel_rfl))
  f221 := Tryz.func162.trans (congrArg some (by kernel_rfl))
  f224 := Tryz.func226.trans (congrArg some (by kernel_rfl))
  f225 := Tryz.func225.trans (congrArg some (by kernel_rfl))
  f260 := Tryz.func223.trans (congrArg some (by kernel_rfl))
  f266 := Tryz.func234.trans (congrArg some (by kernel_rfl))
  f267 := Tryz.func227.trans (congrArg some (by kernel_rfl))
  f268 := Tryz.func186.trans (congrArg some (by kernel_rfl))
  f314 := Tryz.func235.trans (congrArg some (by kernel_rfl))
  t0 := Tryz.underlying0
  a0 := Tryz.isAgg0
  z0 := Tryz.sizeOf0
  v0 := Tryz.zeroValue0
  t3 := Tryz.underlying3
  a3 := Tryz.isAgg3
  z3 := Tryz.sizeOf3
  v3 := Tryz.zeroValue3
  t4 := Tryz.underlying4
  a4 := Tryz.isAgg4
  z4 := Tryz.sizeOf4
  v4 := Tryz.zeroValue4
  t5 := Tryz.underlying5
  a5 := Tryz.isAgg5
  z5 := Tryz.sizeOf5
  v5 := Tryz.zeroValue5
  t9 := Tryz.underlying9
  a9 := Tryz.isAgg9
  z9 := Tryz.sizeOf9
  v9 := Tryz.zeroValue9
  t21 := Tryz.underlying21
  a21 := Tryz.isAgg21
  z21 := Tryz.sizeOf21
  v21 := Tryz.zeroValue21
  t31 := Tryz.underlying48
  a31 := Tryz.isAgg48
  z31 := Tryz.sizeOf48
  v31 := Tryz.zeroValue48
  t46 := Tryz.underlying192
  a46 := Tryz.isAgg192
  z46 := Tryz.sizeOf192
  v46 := Tryz.zeroValue192
  t51 := Tryz.underlying160
  a51 := Tryz.isAgg160
  z51 := Tryz.sizeOf160
  v51 := Tryz.zeroValue160
  t105 := Tryz.underlying235
  a105 := Tryz.isAgg235
  z105 := Tryz.sizeOf235
  v105 := Tryz.zeroValue235
  t119 := Tryz.underlying223
  a119 := Tryz.isAgg223
  z119 := Tryz.sizeOf223
  t138 := Tryz.underlying225
  a138 := Tryz.isAgg225
  z138 := Tryz.sizeOf225
  v138 := Tryz.zeroValue225
  t139 := Tryz.underlying226
  a139 := Tryz.isAgg226
  z139 := Tryz.sizeOf226
  v139 := Tryz.zeroValue226
  t146 := Tryz.underlying252
  a146 := Tryz.isAgg252
  z146 := Tryz.sizeOf252
  v146 := Tryz.zeroValue252
  g1 := by kernel_rfl
  g3 := by kernel_rfl
  g4 := by kernel_rfl
  i0 := by kernel_rfl
  i3 := by kernel_rfl
  i4 := by kernel_rfl
  i5 := by kernel_rfl
  i9 := by kernel_rfl
  i21 := by kernel_rfl
  i31 := by kernel_rfl
  i46 := by kernel_rfl
  i51 := by kernel_rfl
  i105 := by kernel_rfl
  i138 := by kernel_rfl
  i139 := by kernel_rfl
  i146 := by kernel_rfl
  m1 := by kernel_rfl
  s1_3 := fun w h => Go.Proofs.cell_of_shapedOpen_int (zero := #[.int .i64 0]) (t := 3) h (of_decide_eq_true (by kernel_rfl)) (by kernel_rfl) rfl (by kernel_rfl) (by kernel_rfl) Tryz.underlying3
  m3 := by kernel_rfl
  m4 := by kernel_rfl }
open Go.RowKit Go.Lib in
theorem Tryz.strings_Split_shaped (s sep : ByteArray) (w : World) (h : w.ShapedOpen Tryz.prog) (hs : s.size < 4294967281) (h1 : 1 ≤ sep.size) :
    Calls Tryz.prog 112 #[.string s, .string sep] w fun e w' =>
      e = .returned (.slice (some ⟨w.heap.size, 0, none⟩) (Lib.countB s sep + 1) (Lib.countB s sep + 1)) ∧ w' = w.alloc (.cells ((Lib.splitB sep 0 (Lib.countB s sep) s).map Value.string).toArray 9) := Any.strings_Split_shaped Tryz.laysM146 s sep w h hs h1
end Go.Proofs

/- The contract of path.Parse. -/
namespace Go.Proofs.YtlmmgjgkmbmgpaaGreatDoor
open Go.RowKit

/-- internal/bytealg.MaxLen holds an int -/
def MaxL (w : World) : Prop := ∃ m : Int, w.cell? ⟨0, 0, none⟩ = some (.int .i64 m)
theorem MaxL.step {w w' : World} (h : MaxL w) (hb : Below w.heap.size w w') : MaxL w' := by
  obtain ⟨m, h⟩ := h
  exact ⟨m, (hb.cell (p := ⟨0, 0, none⟩) (World.block_lt_of_cell? _ _ h)).trans h⟩
theorem maxL_of {w : World} (h : w.ShapedOpen Tryz.prog) : MaxL w := Tryz.laysM146.s1_3 w h
theorem st_new {w : World} {l : List ByteArray} (hz : l.length ≤ 100000) (hs : ∀ s ∈ l, s.size ≤ reach) : ST (w.alloc (.cells (l.map Value.string).toArray 9)) (some ⟨w.heap.size, 0, none⟩) l.length l.length l := by
  refine ⟨⟨rfl, Nat.le_refl _, fun _ => ⟨w.heap.size, 0, rfl, by simp, fun i a hi j u hj => ?_⟩⟩, by unfold reach; omega, hs⟩
  have hj0 : j = 0 := by
    have := (List.getElem?_eq_some_iff.1 hj).1
    rw [recT_length] at this
    omega
  subst hj0
  have e : u = .string a := by simpa [recT] using hj.symm
  subst e
  have hB : Blk (w.alloc (.cells (l.map Value.string).toArray 9)) w.heap.size 9 (l.map Value.string).toArray := Blk.new_at rfl
  rw [hB.cell]
  simp [hi]

set_option maxHeartbeats 1000000 in
theorem pathParse_any (s : ByteArray) (w : World) (hM : MaxL w) (hs : s.size ≤ 1000) : Calls Tryz.prog 72 #[.string s] w (PathOk s w) := by
  obtain ⟨m, hm⟩ := hM
  have HS := Lib.hid (Tryz.strings_Split s dotA m w (by omega) hm (by decide))
  have hl := split_len s
  have HST : Hid (ST (w.alloc (.cells ((splitP s).map Value.string).toArray 9)) (some ⟨w.heap.size, 0, none⟩) (Lib.countB s dotA + 1) (Lib.countB s dotA + 1) (splitP s)) := by
    have := st_new (w := w) (l := splitP s) (by have := split_le s; omega) (fun t ht => by have := split_small s t ht; unfold reach; omega)
    rw [hl] at this
    exact this
  have HB : Hid (Below w.heap.size w (w.alloc (.cells ((splitP s).map Value.string).toArray 9))) := (Below.refl _ _).alloc (Nat.le_refl _) _
  have HS2 : Hid (Calls Tryz.prog 112 #[.string s, .string dotA] w fun e w' => e = .returned (.slice (some ⟨w.heap.size, 0, none⟩) (Lib.countB s dotA + 1) (Lib.countB s dotA + 1)) ∧ w' = w.alloc (.cells ((splitP s).map Value.string).toArray 9)) := HS.out
  clear HS
  have HBK : Hid (∀ b off : Nat, (some ⟨w.heap.size, 0, none⟩ : Option Addr) = some ⟨b, off, none⟩ → w.heap.size = b) := fun b off e => by injection e with e; injection e
  generalize Lib.countB s dotA + 1 = n at *
  generalize w.alloc (.cells ((splitP s).map Value.string).toArray 9) = w1 at *
  clear hl hm
  go_enter Tryz.func72, Tryz.ntmps72
  go_wp2_with (go_at_call 112; refine (HS2.out).mono ?_; rintro e w3 ⟨rfl, rfl⟩)
  refine (path_any (splitP s) _ _ _ _ HST.out).mono ?_
  rintro e w2 ⟨rfl, hw2⟩
  cases hp : pathB (splitP s)
  · go_wp2_with fail
    go_ret2
    exact ⟨none, 0, 0, by rw [hp]; rfl, fun h => (by rw [hp] at h; cases h), HB.out⟩
  · go_wp2_with fail
    go_ret2
    exact ⟨_, _, _, by rw [hp]; rfl, fun _ => ⟨HST.out, fun b off e => by have := HBK.out b off e; omega⟩, HB.out⟩

end Go.Proofs.YtlmmgjgkmbmgpaaGreatDoor

/- The contract of docstore/shardkey.Parse. Printed by gen_shparse.py. -/
namespace Go.Proofs.YtlmmgjgkmbmgpaaGreatDoor
open Go.RowKit
set_option linter.unusedSimpArgs false

set_option maxRecDepth 100000 in
set_option maxHeartbeats 4000000 in
theorem sparse_any (x : Val) (c : VC) (w : World) (hM : MaxL w) (h : RW w c x) (hd : x.d.length ≤ 2000) (hn : ∀ f ∈ x.d, f.s.size ≤ 1000) : Calls Tryz.prog 28 #[c.val] w (ParOk x w) := by
  obtain ⟨j0, hj0, hy0, hy1, hy2⟩ := info_parts info_order
  have HM := Lib.hid hM
  obtain ⟨fs0, hfs0, hsd⟩ := h.sd
  have HK : Hid (c.k = x.k) := h.open.k
  have HN := Lib.hid hn
  obtain ⟨ck, cn, ct, cLA, cln, clc, cDA, cdn, cdc⟩ := c
  have HSD := Lib.hid hsd
  have HDn := Lib.hid hsd.sr.ln
  have HFS := Lib.hid hfs0
  have hcd : cdn ≤ 2000 := by have h1 : cdn = fs0.length := hsd.sr.ln; have h2 := congrArg List.length hfs0; rw [List.length_map] at h2; omega
  have I0 := Lib.hid (PkI.start (w := w) (c := ⟨ck, cn, ct, cLA, cln, clc, cDA, cdn, cdc⟩))
  have B0 : Hid (Blk ((w.alloc (Obj.cells (VC.arr ⟨ck, cn, ct, cLA, cln, clc, cDA, cdn, cdc⟩) 46)).alloc (Obj.cells #[.slice none 0 0, .bool false] 24)) w.heap.size 46 (VC.arr ⟨ck, cn, ct, cLA, cln, clc, cDA, cdn, cdc⟩)) := (Blk.new_at rfl).alloc _
  have B1 : Hid (Blk ((w.alloc (Obj.cells (VC.arr ⟨ck, cn, ct, cLA, cln, clc, cDA, cdn, cdc⟩) 46)).alloc (Obj.cells #[.slice none 0 0, .bool false] 24)) (w.heap.size + 1) 24 #[.slice none 0 0, .bool false]) := Blk.new_at (by simp)
  have BE : Hid (Below w.heap.size w ((w.alloc (Obj.cells (VC.arr ⟨ck, cn, ct, cLA, cln, clc, cDA, cdn, cdc⟩) 46)).alloc (Obj.cells #[.slice none 0 0, .bool false] 24))) := ((Below.refl _ _).alloc (Nat.le_refl _) _).alloc (by simp) _
  have HW2 : Hid (((w.alloc (Obj.cells (VC.arr ⟨ck, cn, ct, cLA, cln, clc, cDA, cdn, cdc⟩) 46)).alloc (Obj.cells #[.slice none 0 0, .bool false] 24)).heap.size = w.heap.size + 2) := by simp [Hid]
  clear h hsd hfs0 hn hd
  go_enter Tryz.func28, Tryz.ntmps28
  go_upto_region 1 with fail
  change Code.wp _ _ _ _ ((w.alloc (Obj.cells (VC.arr ⟨ck, cn, ct, cLA, cln, clc, cDA, cdn, cdc⟩) 46)).alloc (Obj.cells #[.slice none 0 0, .bool false] 24))
  generalize (w.alloc (Obj.cells (VC.arr ⟨ck, cn, ct, cLA, cln, clc, cDA, cdn, cdc⟩) 46)).alloc (Obj.cells #[.slice none 0 0, .bool false] 24) = wa at *
  obtain ⟨a0, a1, a2, a3, a4⟩ := VAt.of_blk B0.out
  simp only [Nat.zero_add] at a0 a1 a2 a3 a4
  by_cases hk5 : ck = 5
  rotate_left
  · have HF : Hid (parR x = (([], false), 4)) := by unfold Hid parR; rw [if_neg (by have := HK.out; simp only at this; omega)]
    have hkb : (ck != 5) = true := by simpa using hk5
    have q0 := B1.out.cell 0
    have q1 := B1.out.cell 1
    have qz := B1.out.frozen
    simp at q0 q1
    have E := Lib.hid (B1.out.putK (v := .slice none 0 0) (ha := false))
    have EB := Lib.hid (ParOk.err HF.out (below_setK BE.out (g := w.heap.size + 1) (by omega) (.slice none 0 0) false))
    clear hk5
    go_wp2_with fail
    exact bodyPost_ret (results_key_err rfl _ (w.heap.size + 1) rfl (.int .i64 4) rfl _ (.slice none 0 0) false E.out) rfl EB.out
  have HA0 : Hid (parR x = parL (x.d.drop 0) [] false) := by unfold Hid parR; rw [if_pos (by have := HK.out; simp only at this; omega)]; rfl
  subst hk5
  clear HK
  go_upto_region 4 with fail
  change Code.wp _ _ _ _ (wa.alloc (Obj.cells #[.slice none 0 0, .bool false] 24))
  rw [HW2.out]
  clear a0 a1 a2 a3 a4 B0 B1 BE
  generalize wa.alloc (Obj.cells #[.slice none 0 0, .bool false] 24) = wb at *
  obtain ⟨a0, a1, a2, a3, a4⟩ := VAt.of_blk I0.out.b0
  simp only [Nat.zero_add] at a0 a1 a2 a3 a4
  go_wp2_with fail
  clear a0 a1 a2 a3 a4
  go_loopw [17] (fun vi wr => ∃ (i : Nat) (ks : List Od) (ha : Bool) (v : Value), i ≤ cdn ∧ vi = .int .i64 i ∧ ks.length = i ∧ PkI w ⟨5, cn, ct, cLA, cln, clc, cDA, cdn, cdc⟩ ks ha v wr ∧ parR x = parL (x.d.drop i) ks ha) (fun vi _ => cdn - (intOf vi).toNat)
  case atStart => exact ⟨0, [], false, .slice none 0 0, Nat.zero_le _, rfl, rfl, I0.out, HA0.out⟩
  case round =>
    obtain ⟨i, ks, ha, v, hi, rfl, hkl, J, hall⟩ := hrel
    have HKL := Lib.hid hkl
    have J0 := Lib.hid J
    have HA := Lib.hid hall
    clear hkl J hall I0
    by_cases hlt : i < cdn
    · obtain ⟨p, hp⟩ : ∃ p, fs0[i]? = some p := ⟨_, List.getElem?_eq_getElem (by have := HDn.out; omega)⟩
      obtain ⟨b, off, hA, _, hs0, hu, hr⟩ := HSD.out.vat hp
      subst hA
      have hy : x.d[i]? = some p.2 := by rw [← HFS.out, List.getElem?_map, hp]; rfl
      have HDR := Lib.hid (drop_of hy)
      have hsz : p.2.s.size ≤ 1000 := HN.out p.2 (List.mem_of_getElem? hy)
      have HO1 : Hid (isOne p.2.v = ((p.1.k == 3) && (p.1.n == 1))) := by unfold Hid isOne; rw [hr.open.k, hr.open.n]
      have HO2 : Hid (isHash p.2.v = ((p.1.k == 4) && (p.1.t.toList == hashT.toList))) := by unfold Hid isHash; rw [hr.open.k, hr.open.t]
      have y5 := (J0.out.bel.cell (p := ⟨b, off + i * 6, none⟩) hu.lt).trans hs0
      obtain ⟨y0, y1, y2, y3, y4⟩ := hu.keep (J0.out.bel.block b hu.lt)
      have i0' : (0 : Int) ≤ (i : Int) := by omega
      have i1' : (i : Int) < (cdn : Int) := by omega
      have HSZ := Lib.hid hsz
      have hbl : b < wr.heap.size := World.block_lt_of_cell? wr _ y5
      clear hp hs0 hu hr hy hsz
      go_upto_region 7 with fail
      change Code.wp _ _ _ _ (wr.alloc (Obj.cells (recF p).toArray 98))
      have JB : Hid (Blk (wr.alloc (Obj.cells (recF p).toArray 98)) wr.heap.size 98 (recF p).toArray) := Blk.new_at rfl
      have J2 := Lib.hid (J0.out.step ((Below.refl wr.heap.size wr).alloc (Nat.le_refl _) (Obj.cells (recF p).toArray 98)))
      have HGA : Hid (w.heap.size + 3 ≤ wr.heap.size) := J0.out.b2.lt
      generalize wr.alloc (Obj.cells (recF p).toArray 98) = w2 at *
      generalize wr.heap.size = ga at *
      clear y0 y1 y2 y3 y4 y5 J0 hbl
      have v5 : w2.cell? ⟨ga, 0, none⟩ = some (.string p.2.s) := by rw [JB.out.cell]; rfl
      go_wp2_with fail
      refine (pathParse_any p.2.s _ (HM.out.step J2.out.bel) HSZ.out).mono ?_
      rintro e w3 ⟨A1, n1, c1, rfl, hst, hb⟩
      have HST := Lib.hid hst
      have J3 := Lib.hid (J2.out.step hb)
      have HL2 : Hid (w.heap.size + 3 ≤ w2.heap.size) := J2.out.b2.lt
      have HOW2 : Hid (∀ g : Nat, v.ownBlock = some g → g < w2.heap.size) := fun g hg => by obtain ⟨os, h1, _⟩ := J2.out.os; exact own_lt h1 hg
      have JB3 := Lib.hid (JB.out.step hb)
      clear hst hb J2 JB v5
      have v5 : w3.cell? ⟨ga, 0, none⟩ = some (.string p.2.s) := by rw [JB3.out.cell]; rfl
      have v0 : w3.cell? ⟨ga, 1, none⟩ = some (.int .i64 p.1.k) := by rw [JB3.out.cell]; rfl
      have v1 : w3.cell? ⟨ga, 2, none⟩ = some (.int .i64 p.1.n) := by rw [JB3.out.cell]; rfl
      have v2 : w3.cell? ⟨ga, 3, none⟩ = some (.string p.1.t) := by rw [JB3.out.cell]; rfl
      cases hpa : pathB (splitP p.2.s)
      · have HF : Hid (parR x = (([], false), 10)) := by rw [Hid, HA.out, HDR.out, parL_path hpa]
        rw [if_neg Bool.false_ne_true]
        clear hpa
        have q0 := J3.out.b1.cell 0
        have q1 := J3.out.b1.cell 1
        have qz := J3.out.b1.frozen
        simp at q0 q1
        have E := Lib.hid (J3.out.b1.putK (v := .slice none 0 0) (ha := false))
        have EB := Lib.hid (ParOk.err HF.out (below_setK J3.out.bel (g := w.heap.size + 1) (by omega) (.slice none 0 0) false))
        go_wp2_with fail
        exact bodyPost_ret (results_key_err rfl _ (w.heap.size + 1) rfl (.int .i64 10) rfl _ (.slice none 0 0) false E.out) rfl EB.out
      have HPA := Lib.hid hpa
      have HQ3 : Hid (ORF (fun b => w.heap.size + 3 ≤ b ∧ v.ownBlock ≠ some b) w3 ⟨A1, n1, c1, false⟩ ⟨splitP p.2.s, false⟩) := ⟨rfl, (HST.out hpa).1, fun _ b off e => by
        have h1 := (HST.out hpa).2 b off e
        have h2 := HL2.out
        exact ⟨by omega, fun e' => by have := HOW2.out b e'; omega⟩⟩
      rw [if_pos rfl]
      clear hpa HST
      by_cases hk3 : p.1.k = 3
      · have hk3b : (p.1.k == 3) = true := by simpa using hk3
        have hk4b : (p.1.k == 4) = false := by rw [hk3]; rfl
        by_cases hn1 : p.1.n = 1
        · have hn1b : (p.1.n == 1) = true := by simpa using hn1
          have HF : Hid (parR x = parL (x.d.drop (i + 1)) (ks ++ [⟨splitP p.2.s, false⟩]) ha) := by rw [Hid, HA.out, HDR.out, parL_one HPA.out (by rw [HO1.out, hk3b, hn1b]; rfl)]
          have HQ := HQ3
          obtain ⟨wx, hwx⟩ : ∃ wx : World, wx = w3 := ⟨_, rfl⟩
          rw [← hwx] at v5 v0 v1 v2 J3 HQ ⊢
          clear hwx JB3 HQ3 hk3 hn1
          obtain ⟨os, hown, hlen, hel⟩ := J3.out.os
          have r0 := J3.out.b2.cell 0
          have rz := J3.out.b2.frozen
          simp at r0
          have HOW := Lib.hid hown
          have HLE := Lib.hid hlen
          have HEL := Lib.hid hel
          have hlo := Lib.hid J3.out.b2.lt
          have hol : os.length ≤ 2000 := by have := HKL.out; omega
          clear hown hlen hel
          go_upto_region 14 with fail
          have LA := (Below.refl wx.heap.size wx).alloc (Nat.le_refl _) (Obj.cells #[.slice A1 n1 c1, .bool false] 130)
          have J7 := Lib.hid (J3.out.step LA)
          have HOW7 := Lib.hid (own_step HOW.out LA)
          have HEL7 : Hid (∀ (i : Nat) (o : OC) (q : Od), os[i]? = some o → ks[i]? = some q → ORF (fun b => w.heap.size + 3 ≤ b ∧ v.ownBlock ≠ some b) (wx.alloc (Obj.cells #[.slice A1 n1 c1, .bool false] 130)) o q) := fun i o q hi hq => (HEL.out i o q hi hq).keep LA.size fun b hF hl => ⟨hF, LA.block b hl⟩
          have HQ7 : Hid (ORF (fun b => w.heap.size + 3 ≤ b ∧ v.ownBlock ≠ some b) (wx.alloc (Obj.cells #[.slice A1 n1 c1, .bool false] 130)) ⟨A1, n1, c1, false⟩ ⟨splitP p.2.s, false⟩) := HQ.out.keep LA.size fun b hF hl => ⟨hF, LA.block b hl⟩
          clear LA
          go_wp2_with (at_builtin; refine wpList_append_any _ rfl _ _ 22 rfl (w.heap.size + 3) 130 j0 (aggO OC.zero) 2 32 Tryz.underlying22 hj0 hy0 hy1 hy2 rfl (by decide) v os.length (flat recO os) rfl HOW7.out _ _ 1 _ (recO ⟨A1, n1, c1, false⟩) rfl ⟨rfl, fun _ => ⟨_, rfl, Nat.lt_succ_self _, news_at _ _ _⟩⟩ (recO_one _) (by unfold maxLen; omega) (by omega) (alloc_le4 hlo.out _) ?_)
          intro v7 w7 hown hgr hat
          obtain ⟨A7, c7, rfl, _⟩ := own_slice hown
          have hy0' := (J7.out.b2.grown hgr (fun e => own_ne HOW7.out (g := w.heap.size + 2) (by omega) e.symm)).cell 0
          have hyz := (J7.out.b2.grown hgr (fun e => own_ne HOW7.out (g := w.heap.size + 2) (by omega) e.symm)).frozen
          simp at hy0'
          have J8 := Lib.hid (J7.out.add HLE.out HEL7.out HOW7.out rfl hown hgr (by rw [size_alloc]; exact hat) HQ7.out)
          clear hown hgr hat J7 HOW7 HEL7 HQ7 HOW HEL r0 rz
          go_wp2_with fail
          clear hy0' hyz
          generalize w7.setCell ⟨w.heap.size + 2, 0, none⟩ (.slice A7 (os.length + 1) c7) = w8 at *
          (try go_wp2_with fail)
          go_roundw
          case rel => exact ⟨i + 1, ks ++ [⟨splitP p.2.s, false⟩], ha, _, hlt, by go_num, by rw [List.length_append]; have := HKL.out; simp; omega, J8.out, HF.out⟩
          case measure => simp [intOf]; omega
        · have hn1b : (p.1.n == 1) = false := by simpa using hn1
          have HF : Hid (parR x = (([], false), 4)) := by rw [Hid, HA.out, HDR.out, parL_form HPA.out (by rw [HO1.out, hk3b, hn1b]; rfl) (by rw [HO2.out, hk4b]; rfl)]
          clear hk3 hn1 JB3
          have q0 := J3.out.b1.cell 0
          have q1 := J3.out.b1.cell 1
          have qz := J3.out.b1.frozen
          simp at q0 q1
          have E := Lib.hid (J3.out.b1.putK (v := .slice none 0 0) (ha := false))
          have EB := Lib.hid (ParOk.err HF.out (below_setK J3.out.bel (g := w.heap.size + 1) (by omega) (.slice none 0 0) false))
          go_wp2_with fail
          exact bodyPost_ret (results_key_err rfl _ (w.heap.size + 1) rfl (.int .i64 4) rfl _ (.slice none 0 0) false E.out) rfl EB.out
      have hk3b : (p.1.k == 3) = false := by simpa using hk3
      by_cases hk4 : p.1.k = 4
      · have hk4b : (p.1.k == 4) = true := by simpa using hk4
        cases hh : (p.1.t.toList == hashT.toList)
        · have HF : Hid (parR x = (([], false), 4)) := by rw [Hid, HA.out, HDR.out, parL_form HPA.out (by rw [HO1.out, hk3b]; rfl) (by rw [HO2.out, hk4b, hh]; rfl)]
          rw [hashL] at hh
          clear hk3 hk4 JB3
          have q0 := J3.out.b1.cell 0
          have q1 := J3.out.b1.cell 1
          have qz := J3.out.b1.frozen
          simp at q0 q1
          have E := Lib.hid (J3.out.b1.putK (v := .slice none 0 0) (ha := false))
          have EB := Lib.hid (ParOk.err HF.out (below_setK J3.out.bel (g := w.heap.size + 1) (by omega) (.slice none 0 0) false))
          go_wp2_with fail
          exact bodyPost_ret (results_key_err rfl _ (w.heap.size + 1) rfl (.int .i64 4) rfl _ (.slice none 0 0) false E.out) rfl EB.out
        · have HF : Hid (parR x = parL (x.d.drop (i + 1)) (ks ++ [⟨splitP p.2.s, false⟩]) true) := by rw [Hid, HA.out, HDR.out, parL_hash HPA.out (by rw [HO1.out, hk3b]; rfl) (by rw [HO2.out, hk4b, hh]; rfl)]
          rw [hashL] at hh
          have r1 := J3.out.b2.cell 1
          have rz1 := J3.out.b2.frozen
          simp at r1
          have J4 := Lib.hid (J3.out.flag true)
          have HQ : Hid (ORF (fun b => w.heap.size + 3 ≤ b ∧ v.ownBlock ≠ some b) (w3.setCell ⟨w.heap.size + 2, 1, none⟩ (.bool true)) ⟨A1, n1, c1, false⟩ ⟨splitP p.2.s, false⟩) := HQ3.out.keep (by simp [World.setCell]) fun b hF _ => ⟨hF, Below.heap_setCell _ _ _ b (by show b ≠ w.heap.size + 2; omega)⟩
          go_upto_region 14 with fail
          generalize w3.setCell ⟨w.heap.size + 2, 1, none⟩ (.bool true) = wx at *
          clear r1 rz1 v5 v0 v1 v2 J3 JB3 HQ3 hk3 hk4 hh
          obtain ⟨os, hown, hlen, hel⟩ := J4.out.os
          have r0 := J4.out.b2.cell 0
          have rz := J4.out.b2.frozen
          simp at r0
          have HOW := Lib.hid hown
          have HLE := Lib.hid hlen
          have HEL := Lib.hid hel
          have hlo := Lib.hid J4.out.b2.lt
          have hol : os.length ≤ 2000 := by have := HKL.out; omega
          clear hown hlen hel
          go_upto_region 14 with fail
          have LA := (Below.refl wx.heap.size wx).alloc (Nat.le_refl _) (Obj.cells #[.slice A1 n1 c1, .bool false] 130)
          have J7 := Lib.hid (J4.out.step LA)
          have HOW7 := Lib.hid (own_step HOW.out LA)
          have HEL7 : Hid (∀ (i : Nat) (o : OC) (q : Od), os[i]? = some o → ks[i]? = some q → ORF (fun b => w.heap.size + 3 ≤ b ∧ v.ownBlock ≠ some b) (wx.alloc (Obj.cells #[.slice A1 n1 c1, .bool false] 130)) o q) := fun i o q hi hq => (HEL.out i o q hi hq).keep LA.size fun b hF hl => ⟨hF, LA.block b hl⟩
          have HQ7 : Hid (ORF (fun b => w.heap.size + 3 ≤ b ∧ v.ownBlock ≠ some b) (wx.alloc (Obj.cells #[.slice A1 n1 c1, .bool false] 130)) ⟨A1, n1, c1, false⟩ ⟨splitP p.2.s, false⟩) := HQ.out.keep LA.size fun b hF hl => ⟨hF, LA.block b hl⟩
          clear LA
          go_wp2_with (at_builtin; refine wpList_append_any _ rfl _ _ 22 rfl (w.heap.size + 3) 130 j0 (aggO OC.zero) 2 32 Tryz.underlying22 hj0 hy0 hy1 hy2 rfl (by decide) v os.length (flat recO os) rfl HOW7.out _ _ 1 _ (recO ⟨A1, n1, c1, false⟩) rfl ⟨rfl, fun _ => ⟨_, rfl, Nat.lt_succ_self _, news_at _ _ _⟩⟩ (recO_one _) (by unfold maxLen; omega) (by omega) (alloc_le4 hlo.out _) ?_)
          intro v7 w7 hown hgr hat
          obtain ⟨A7, c7, rfl, _⟩ := own_slice hown
          have hy0' := (J7.out.b2.grown hgr (fun e => own_ne HOW7.out (g := w.heap.size + 2) (by omega) e.symm)).cell 0
          have hyz := (J7.out.b2.grown hgr (fun e => own_ne HOW7.out (g := w.heap.size + 2) (by omega) e.symm)).frozen
          simp at hy0'
          have J8 := Lib.hid (J7.out.add HLE.out HEL7.out HOW7.out rfl hown hgr (by rw [size_alloc]; exact hat) HQ7.out)
          clear hown hgr hat J7 HOW7 HEL7 HQ7 HOW HEL r0 rz
          go_wp2_with fail
          clear hy0' hyz
          generalize w7.setCell ⟨w.heap.size + 2, 0, none⟩ (.slice A7 (os.length + 1) c7) = w8 at *
          (try go_wp2_with fail)
          go_roundw
          case rel => exact ⟨i + 1, ks ++ [⟨splitP p.2.s, false⟩], true, _, hlt, by go_num, by rw [List.length_append]; have := HKL.out; simp; omega, J8.out, HF.out⟩
          case measure => simp [intOf]; omega
      have hk4b : (p.1.k == 4) = false := by simpa using hk4
      have HF : Hid (parR x = (([], false), 4)) := by rw [Hid, HA.out, HDR.out, parL_form HPA.out (by rw [HO1.out, hk3b]; rfl) (by rw [HO2.out, hk4b]; rfl)]
      clear hk3 hk4 JB3
      have q0 := J3.out.b1.cell 0
      have q1 := J3.out.b1.cell 1
      have qz := J3.out.b1.frozen
      simp at q0 q1
      have E := Lib.hid (J3.out.b1.putK (v := .slice none 0 0) (ha := false))
      have EB := Lib.hid (ParOk.err HF.out (below_setK J3.out.bel (g := w.heap.size + 1) (by omega) (.slice none 0 0) false))
      go_wp2_with fail
      exact bodyPost_ret (results_key_err rfl _ (w.heap.size + 1) rfl (.int .i64 4) rfl _ (.slice none 0 0) false E.out) rfl EB.out
    · obtain rfl : i = cdn := by omega
      have HF : Hid (parR x = if keyE ks ha = 0 then ((ks, ha), 0) else (([], false), keyE ks ha)) := by
        rw [Hid, HA.out, List.drop_of_length_le (by have h1 : _ = fs0.length := HDn.out; have h2 := congrArg List.length HFS.out; rw [List.length_map] at h2; omega)]
        rfl
      obtain ⟨A9, c9, rfl, hks⟩ := J0.out.ks (by have := HKL.out; omega)
      have HKS := Lib.hid hks
      clear hks
      have r0 := J0.out.b2.cell 0
      have r1 := J0.out.b2.cell 1
      simp at r0 r1
      go_wp2_with fail
      refine (shardkey_any ks ha A9 ks.length c9 _ HKS.out).mono ?_
      rintro e w5 ⟨rfl, hb⟩
      have J5 := Lib.hid (J0.out.step hb)
      have HK5 := Lib.hid (HKS.out.step hb)
      clear hb J0 HKS r0 r1
      obtain ⟨E9, hE9⟩ : ∃ E9, keyE ks ha = E9 := ⟨_, rfl⟩
      rw [hE9] at HF ⊢
      by_cases he : E9 = 0
      · subst he
        have HF2 : Hid (parR x = ((ks, ha), 0)) := by rw [Hid, HF.out, if_pos rfl]
        have q0 := J5.out.b1.cell 0
        have q1 := J5.out.b1.cell 1
        have qz := J5.out.b1.frozen
        have r0 := J5.out.b2.cell 0
        have r1 := J5.out.b2.cell 1
        simp at q0 q1 r0 r1
        have E := Lib.hid (J5.out.b1.putK (v := .slice A9 ks.length c9) (ha := ha))
        have EB : Hid (ParOk x w (.returned (.tuple #[.agg #[.slice A9 ks.length c9, .bool ha], .int .i64 0])) (setK w5 (w.heap.size + 1) (.slice A9 ks.length c9) ha)) := by
          refine ⟨A9, ks.length, c9, by rw [HF2.out], ?_, below_setK J5.out.bel (g := w.heap.size + 1) (by omega) _ _⟩
          rw [HF2.out]
          obtain ⟨os, h1, h2, h3⟩ := J5.out.os
          obtain ⟨A', c', e', hs'⟩ := SR.of_own recO_length (own_keep h1 (w' := setK w5 (w.heap.size + 1) (.slice A9 ks.length c9) ha) fun g hg => heap_setK _ _ _ _ g (by have := own_ge h1 g hg; omega)) rfl
          rw [h2] at e' hs'
          injection e' with e1 e2 e3
          subst e1 e3
          exact ⟨os, hs', by have := HKL.out; unfold reach; omega, h2, fun i o q hi hq => by
            have := (h3 i o q hi hq).keep (G := fun _ => True) (w' := setK w5 (w.heap.size + 1) (.slice A9 ks.length c9) ha) (by simp [setK, World.setCell]) fun b hF _ => ⟨trivial, heap_setK _ _ _ _ b (by omega)⟩
            exact ⟨this.d, this.st.st⟩⟩
        go_wp2_with fail
        exact bodyPost_ret (results_key_err rfl _ (w.heap.size + 1) rfl (.int .i64 0) rfl _ (.slice A9 ks.length c9) ha E.out) rfl EB.out
      · have HF2 : Hid (parR x = (([], false), E9)) := by rw [Hid, HF.out, if_neg he]
        have heb : (E9 != 0) = true := by simpa using he
        clear he
        have q0 := J5.out.b1.cell 0
        have q1 := J5.out.b1.cell 1
        have qz := J5.out.b1.frozen
        simp at q0 q1
        have E := Lib.hid (J5.out.b1.putK (v := .slice none 0 0) (ha := false))
        have EB := Lib.hid (ParOk.err HF2.out (below_setK J5.out.bel (g := w.heap.size + 1) (by omega) (.slice none 0 0) false))
        go_wp2_with fail
        exact bodyPost_ret (results_key_err rfl _ (w.heap.size + 1) rfl (.int .i64 E9) rfl _ (.slice none 0 0) false E.out) rfl EB.out

end Go.Proofs.YtlmmgjgkmbmgpaaGreatDoor


/- The contract of docstore/docstoreref48.Parse. Printed by gen_shparse.py. -/
namespace Go.Proofs.YtlmmgjgkmbmgpaaGreatDoor
open Go.RowKit
set_option linter.unusedSimpArgs false

set_option maxRecDepth 100000 in
set_option maxHeartbeats 4000000 in
theorem rsparse_any (x : Val) (c : VC) (w : World) (h : RW w c x) (hd : x.d.length ≤ 2000) (hn : ∀ f ∈ x.d, f.s.size ≤ 1000) : Calls Tryz.prog 29 #[c.val] w (ParOk x w) := by
  obtain ⟨j0, hj0, hy0, hy1, hy2⟩ := info_parts info_order
  obtain ⟨fs0, hfs0, hsd⟩ := h.sd
  have HK : Hid (c.k = x.k) := h.open.k
  have HN := Lib.hid hn
  obtain ⟨ck, cn, ct, cLA, cln, clc, cDA, cdn, cdc⟩ := c
  have HSD := Lib.hid hsd
  have HDn := Lib.hid hsd.sr.ln
  have HFS := Lib.hid hfs0
  have hcd : cdn ≤ 2000 := by have h1 : cdn = fs0.length := hsd.sr.ln; have h2 := congrArg List.length hfs0; rw [List.length_map] at h2; omega
  have I0 := Lib.hid (PkI.start (w := w) (c := ⟨ck, cn, ct, cLA, cln, clc, cDA, cdn, cdc⟩))
  have B0 : Hid (Blk ((w.alloc (Obj.cells (VC.arr ⟨ck, cn, ct, cLA, cln, clc, cDA, cdn, cdc⟩) 46)).alloc (Obj.cells #[.slice none 0 0, .bool false] 24)) w.heap.size 46 (VC.arr ⟨ck, cn, ct, cLA, cln, clc, cDA, cdn, cdc⟩)) := (Blk.new_at rfl).alloc _
  have B1 : Hid (Blk ((w.alloc (Obj.cells (VC.arr ⟨ck, cn, ct, cLA, cln, clc, cDA, cdn, cdc⟩) 46)).alloc (Obj.cells #[.slice none 0 0, .bool false] 24)) (w.heap.size + 1) 24 #[.slice none 0 0, .bool false]) := Blk.new_at (by simp)
  have BE : Hid (Below w.heap.size w ((w.alloc (Obj.cells (VC.arr ⟨ck, cn, ct, cLA, cln, clc, cDA, cdn, cdc⟩) 46)).alloc (Obj.cells #[.slice none 0 0, .bool false] 24))) := ((Below.refl _ _).alloc (Nat.le_refl _) _).alloc (by simp) _
  have HW2 : Hid (((w.alloc (Obj.cells (VC.arr ⟨ck, cn, ct, cLA, cln, clc, cDA, cdn, cdc⟩) 46)).alloc (Obj.cells #[.slice none 0 0, .bool false] 24)).heap.size = w.heap.size + 2) := by simp [Hid]
  clear h hsd hfs0 hn hd
  go_enter Tryz.func29, Tryz.ntmps29
  go_upto_region 1 with fail
  change Code.wp _ _ _ _ ((w.alloc (Obj.cells (VC.arr ⟨ck, cn, ct, cLA, cln, clc, cDA, cdn, cdc⟩) 46)).alloc (Obj.cells #[.slice none 0 0, .bool false] 24))
  generalize (w.alloc (Obj.cells (VC.arr ⟨ck, cn, ct, cLA, cln, clc, cDA, cdn, cdc⟩) 46)).alloc (Obj.cells #[.slice none 0 0, .bool false] 24) = wa at *
  obtain ⟨a0, a1, a2, a3, a4⟩ := VAt.of_blk B0.out
  simp only [Nat.zero_add] at a0 a1 a2 a3 a4
  by_cases hk5 : ck = 5
  rotate_left
  · have HF : Hid (parR x = (([], false), 4)) := by unfold Hid parR; rw [if_neg (by have := HK.out; simp only at this; omega)]
    have hkb : (ck != 5) = true := by simpa using hk5
    have q0 := B1.out.cell 0
    have q1 := B1.out.cell 1
    have qz := B1.out.frozen
    simp at q0 q1
    have E := Lib.hid (B1.out.putK (v := .slice none 0 0) (ha := false))
    have EB := Lib.hid (ParOk.err HF.out (below_setK BE.out (g := w.heap.size + 1) (by omega) (.slice none 0 0) false))
    clear hk5
    go_wp2_with fail
    exact bodyPost_ret (results_key_err rfl _ (w.heap.size + 1) rfl (.int .i64 4) rfl _ (.slice none 0 0) false E.out) rfl EB.out
  have HA0 : Hid (parR x = parL (x.d.drop 0) [] false) := by unfold Hid parR; rw [if_pos (by have := HK.out; simp only at this; omega)]; rfl
  subst hk5
  clear HK
  go_upto_region 4 with fail
  change Code.wp _ _ _ _ (wa.alloc (Obj.cells #[.slice none 0 0, .bool false] 24))
  rw [HW2.out]
  clear a0 a1 a2 a3 a4 B0 B1 BE
  generalize wa.alloc (Obj.cells #[.slice none 0 0, .bool false] 24) = wb at *
  obtain ⟨a0, a1, a2, a3, a4⟩ := VAt.of_blk I0.out.b0
  simp only [Nat.zero_add] at a0 a1 a2 a3 a4
  go_wp2_with fail
  clear a0 a1 a2 a3 a4
  go_loopw [5] (fun vi wr => ∃ (i : Nat) (ks : List Od) (ha : Bool) (v : Value), i ≤ cdn ∧ vi = .int .i64 i ∧ ks.length = i ∧ PkI w ⟨5, cn, ct, cLA, cln, clc, cDA, cdn, cdc⟩ ks ha v wr ∧ parR x = parL (x.d.drop i) ks ha) (fun vi _ => cdn - (intOf vi).toNat)
  case atStart => exact ⟨0, [], false, .slice none 0 0, Nat.zero_le _, rfl, rfl, I0.out, HA0.out⟩
  case round =>
    obtain ⟨i, ks, ha, v, hi, rfl, hkl, J, hall⟩ := hrel
    have HKL := Lib.hid hkl
    have J0 := Lib.hid J
    have HA := Lib.hid hall
    clear hkl J hall I0
    obtain ⟨a0, a1, a2, a3, a4⟩ := VAt.of_blk J0.out.b0
    simp only [Nat.zero_add] at a0 a1 a2 a3 a4
    by_cases hlt : i < cdn
    · obtain ⟨p, hp⟩ : ∃ p, fs0[i]? = some p := ⟨_, List.getElem?_eq_getElem (by have := HDn.out; omega)⟩
      obtain ⟨b, off, hA, _, hs0, hu, hr⟩ := HSD.out.vat hp
      subst hA
      have hy : x.d[i]? = some p.2 := by rw [← HFS.out, List.getElem?_map, hp]; rfl
      have HDR := Lib.hid (drop_of hy)
      have hsz : p.2.s.size ≤ 1000 := HN.out p.2 (List.mem_of_getElem? hy)
      have HO1 : Hid (isOne p.2.v = ((p.1.k == 3) && (p.1.n == 1))) := by unfold Hid isOne; rw [hr.open.k, hr.open.n]
      have HO2 : Hid (isHash p.2.v = ((p.1.k == 4) && (p.1.t.toList == hashT.toList))) := by unfold Hid isHash; rw [hr.open.k, hr.open.t]
      have y5 := (J0.out.bel.cell (p := ⟨b, off + i * 6, none⟩) hu.lt).trans hs0
      obtain ⟨y0, y1, y2, y3, y4⟩ := hu.keep (J0.out.bel.block b hu.lt)
      have i0' : (0 : Int) ≤ (i : Int) := by omega
      have i1' : (i : Int) < (cdn : Int) := by omega
      have HSZ := Lib.hid hsz
      have hbl : b < wr.heap.size := World.block_lt_of_cell? wr _ y5
      clear hp hs0 hu hr hy hsz
      have J2 := J0
      go_wp2_with fail
      refine (parse04_any p.2.s _ HSZ.out).mono ?_
      rintro e w3 ⟨A1, n1, c1, rfl, hst, hb⟩
      have HST := Lib.hid hst
      have J3 := Lib.hid (J2.out.step hb)
      have HL2 : Hid (w.heap.size + 3 ≤ wr.heap.size) := J2.out.b2.lt
      have HOW2 : Hid (∀ g : Nat, v.ownBlock = some g → g < wr.heap.size) := fun g hg => by obtain ⟨os, h1, _⟩ := J2.out.os; exact own_lt h1 hg
      have hyb : ∀ j : Nat, w3.cell? ⟨b, j, none⟩ = wr.cell? ⟨b, j, none⟩ := fun j => hb.cell (p := ⟨b, j, none⟩) hbl
      replace y0 := (hyb _).trans y0
      replace y1 := (hyb _).trans y1
      replace y2 := (hyb _).trans y2
      replace y3 := (hyb _).trans y3
      replace y4 := (hyb _).trans y4
      clear hst hb J2 J0 a0 a1 a2 a3 a4 hyb y5 hbl
      obtain ⟨a0, a1, a2, a3, a4⟩ := VAt.of_blk J3.out.b0
      simp only [Nat.zero_add] at a0 a1 a2 a3 a4
      cases hpa : pathB (splitP p.2.s)
      · have HF : Hid (parR x = (([], false), 10)) := by rw [Hid, HA.out, HDR.out, parL_path hpa]
        rw [if_neg Bool.false_ne_true]
        clear hpa
        have q0 := J3.out.b1.cell 0
        have q1 := J3.out.b1.cell 1
        have qz := J3.out.b1.frozen
        simp at q0 q1
        have E := Lib.hid (J3.out.b1.putK (v := .slice none 0 0) (ha := false))
        have EB := Lib.hid (ParOk.err HF.out (below_setK J3.out.bel (g := w.heap.size + 1) (by omega) (.slice none 0 0) false))
        go_wp2_with fail
        exact bodyPost_ret (results_key_err rfl _ (w.heap.size + 1) rfl (.int .i64 10) rfl _ (.slice none 0 0) false E.out) rfl EB.out
      have HPA := Lib.hid hpa
      have HQ3 : Hid (ORF (fun b => w.heap.size + 3 ≤ b ∧ v.ownBlock ≠ some b) w3 ⟨A1, n1, c1, false⟩ ⟨splitP p.2.s, false⟩) := ⟨rfl, (HST.out hpa).1, fun _ b off e => by
        have h1 := (HST.out hpa).2 b off e
        have h2 := HL2.out
        exact ⟨by omega, fun e' => by have := HOW2.out b e'; omega⟩⟩
      rw [if_pos rfl]
      clear hpa HST
      go_upto_region 11 with fail
      change Code.wp _ _ _ _ (w3.alloc (Obj.cells p.1.arr 46))
      have JV : Hid (Blk (w3.alloc (Obj.cells p.1.arr 46)) w3.heap.size 46 p.1.arr) := Blk.new_at rfl
      have LV := (Below.refl w3.heap.size w3).alloc (Nat.le_refl _) (Obj.cells p.1.arr 46)
      replace HQ3 : Hid (ORF (fun b => w.heap.size + 3 ≤ b ∧ v.ownBlock ≠ some b) (w3.alloc (Obj.cells p.1.arr 46)) ⟨A1, n1, c1, false⟩ ⟨splitP p.2.s, false⟩) := HQ3.out.keep LV.size fun b hF hl => ⟨hF, LV.block b hl⟩
      replace J3 := Lib.hid (J3.out.step LV)
      clear LV y0 y1 y2 y3 y4 a0 a1 a2 a3 a4
      generalize w3.alloc (Obj.cells p.1.arr 46) = w4 at *
      generalize w3.heap.size = gv at *
      obtain ⟨y0, y1, y2, y3, y4⟩ := VAt.of_blk JV.out
      simp only [Nat.zero_add] at y0 y1 y2 y3 y4
      by_cases hk4 : p.1.k = 4
      · have hk4b : (p.1.k == 4) = true := by simpa using hk4
        have hk3b : (p.1.k == 3) = false := by rw [hk4]; rfl
        have hk3c : (p.1.k != 3) = true := by rw [hk4]; rfl
        cases hh : (p.1.t.toList == hashT.toList)
        · have HF : Hid (parR x = (([], false), 4)) := by rw [Hid, HA.out, HDR.out, parL_form HPA.out (by rw [HO1.out, hk3b]; rfl) (by rw [HO2.out, hk4b, hh]; rfl)]
          rw [hashL] at hh
          clear hk4
          have q0 := J3.out.b1.cell 0
          have q1 := J3.out.b1.cell 1
          have qz := J3.out.b1.frozen
          simp at q0 q1
          have E := Lib.hid (J3.out.b1.putK (v := .slice none 0 0) (ha := false))
          have EB := Lib.hid (ParOk.err HF.out (below_setK J3.out.bel (g := w.heap.size + 1) (by omega) (.slice none 0 0) false))
          go_wp2_with fail
          exact bodyPost_ret (results_key_err rfl _ (w.heap.size + 1) rfl (.int .i64 4) rfl _ (.slice none 0 0) false E.out) rfl EB.out
        · have HF : Hid (parR x = parL (x.d.drop (i + 1)) (ks ++ [⟨splitP p.2.s, false⟩]) true) := by rw [Hid, HA.out, HDR.out, parL_hash HPA.out (by rw [HO1.out, hk3b]; rfl) (by rw [HO2.out, hk4b, hh]; rfl)]
          rw [hashL] at hh
          clear hk4
          have JX : True := trivial
          have r1 := J3.out.b2.cell 1
          have rz1 := J3.out.b2.frozen
          simp at r1
          cases ha
          · have J4 := Lib.hid (J3.out.flag true)
            have HQ : Hid (ORF (fun b => w.heap.size + 3 ≤ b ∧ v.ownBlock ≠ some b) (w4.setCell ⟨w.heap.size + 2, 1, none⟩ (.bool true)) ⟨A1, n1, c1, false⟩ ⟨splitP p.2.s, false⟩) := HQ3.out.keep (by simp [World.setCell]) fun b hF _ => ⟨hF, Below.heap_setCell _ _ _ b (by show b ≠ w.heap.size + 2; omega)⟩
            go_upto_region 15 with fail
            generalize w4.setCell ⟨w.heap.size + 2, 1, none⟩ (.bool true) = wx at *
            clear r1 rz1 y0 y1 y2 y3 y4 J3 HQ3 JV JX
            obtain ⟨os, hown, hlen, hel⟩ := J4.out.os
            have r0 := J4.out.b2.cell 0
            have rz := J4.out.b2.frozen
            simp at r0
            have HOW := Lib.hid hown
            have HLE := Lib.hid hlen
            have HEL := Lib.hid hel
            have hlo := Lib.hid J4.out.b2.lt
            have hol : os.length ≤ 2000 := by have := HKL.out; omega
            clear hown hlen hel
            go_upto_region 15 with fail
            have LA := (Below.refl wx.heap.size wx).alloc (Nat.le_refl _) (Obj.cells #[.slice A1 n1 c1, .bool false] 130)
            have J7 := Lib.hid (J4.out.step LA)
            have HOW7 := Lib.hid (own_step HOW.out LA)
            have HEL7 : Hid (∀ (i : Nat) (o : OC) (q : Od), os[i]? = some o → ks[i]? = some q → ORF (fun b => w.heap.size + 3 ≤ b ∧ v.ownBlock ≠ some b) (wx.alloc (Obj.cells #[.slice A1 n1 c1, .bool false] 130)) o q) := fun i o q hi hq => (HEL.out i o q hi hq).keep LA.size fun b hF hl => ⟨hF, LA.block b hl⟩
            have HQ7 : Hid (ORF (fun b => w.heap.size + 3 ≤ b ∧ v.ownBlock ≠ some b) (wx.alloc (Obj.cells #[.slice A1 n1 c1, .bool false] 130)) ⟨A1, n1, c1, false⟩ ⟨splitP p.2.s, false⟩) := HQ.out.keep LA.size fun b hF hl => ⟨hF, LA.block b hl⟩
            clear LA
            go_wp2_with (at_builtin; refine wpList_append_any _ rfl _ _ 22 rfl (w.heap.size + 3) 130 j0 (aggO OC.zero) 2 32 Tryz.underlying22 hj0 hy0 hy1 hy2 rfl (by decide) v os.length (flat recO os) rfl HOW7.out _ _ 1 _ (recO ⟨A1, n1, c1, false⟩) rfl ⟨rfl, fun _ => ⟨_, rfl, Nat.lt_succ_self _, news_at _ _ _⟩⟩ (recO_one _) (by unfold maxLen; omega) (by omega) (alloc_le4 hlo.out _) ?_)
            intro v7 w7 hown hgr hat
            obtain ⟨A7, c7, rfl, _⟩ := own_slice hown
            have hy0' := (J7.out.b2.grown hgr (fun e => own_ne HOW7.out (g := w.heap.size + 2) (by omega) e.symm)).cell 0
            have hyz := (J7.out.b2.grown hgr (fun e => own_ne HOW7.out (g := w.heap.size + 2) (by omega) e.symm)).frozen
            simp at hy0'
            have J8 := Lib.hid (J7.out.add HLE.out HEL7.out HOW7.out rfl hown hgr (by rw [size_alloc]; exact hat) HQ7.out)
            clear hown hgr hat J7 HOW7 HEL7 HQ7 HOW HEL r0 rz
            go_wp2_with fail
            clear hy0' hyz
            generalize w7.setCell ⟨w.heap.size + 2, 0, none⟩ (.slice A7 (os.length + 1) c7) = w8 at *
            (try go_wp2_with fail)
            go_roundw
            case rel => exact ⟨i + 1, ks ++ [⟨splitP p.2.s, false⟩], true, _, hlt, by go_num, by rw [List.length_append]; have := HKL.out; simp; omega, J8.out, HF.out⟩
            case measure => simp [intOf]; omega
          · have J4 := Lib.hid (J3.out.flag true)
            have HQ : Hid (ORF (fun b => w.heap.size + 3 ≤ b ∧ v.ownBlock ≠ some b) (w4.setCell ⟨w.heap.size + 2, 1, none⟩ (.bool true)) ⟨A1, n1, c1, false⟩ ⟨splitP p.2.s, false⟩) := HQ3.out.keep (by simp [World.setCell]) fun b hF _ => ⟨hF, Below.heap_setCell _ _ _ b (by show b ≠ w.heap.size + 2; omega)⟩
            go_upto_region 15 with fail
            generalize w4.setCell ⟨w.heap.size + 2, 1, none⟩ (.bool true) = wx at *
            clear r1 rz1 y0 y1 y2 y3 y4 J3 HQ3 JV JX
            obtain ⟨os, hown, hlen, hel⟩ := J4.out.os
            have r0 := J4.out.b2.cell 0
            have rz := J4.out.b2.frozen
            simp at r0
            have HOW := Lib.hid hown
            have HLE := Lib.hid hlen
            have HEL := Lib.hid hel
            have hlo := Lib.hid J4.out.b2.lt
            have hol : os.length ≤ 2000 := by have := HKL.out; omega
            clear hown hlen hel
            go_upto_region 15 with fail
            have LA := (Below.refl wx.heap.size wx).alloc (Nat.le_refl _) (Obj.cells #[.slice A1 n1 c1, .bool false] 130)
            have J7 := Lib.hid (J4.out.step LA)
            have HOW7 := Lib.hid (own_step HOW.out LA)
            have HEL7 : Hid (∀ (i : Nat) (o : OC) (q : Od), os[i]? = some o → ks[i]? = some q → ORF (fun b => w.heap.size + 3 ≤ b ∧ v.ownBlock ≠ some b) (wx.alloc (Obj.cells #[.slice A1 n1 c1, .bool false] 130)) o q) := fun i o q hi hq => (HEL.out i o q hi hq).keep LA.size fun b hF hl => ⟨hF, LA.block b hl⟩
            have HQ7 : Hid (ORF (fun b => w.heap.size + 3 ≤ b ∧ v.ownBlock ≠ some b) (wx.alloc (Obj.cells #[.slice A1 n1 c1, .bool false] 130)) ⟨A1, n1, c1, false⟩ ⟨splitP p.2.s, false⟩) := HQ.out.keep LA.size fun b hF hl => ⟨hF, LA.block b hl⟩
            clear LA
            go_wp2_with (at_builtin; refine wpList_append_any _ rfl _ _ 22 rfl (w.heap.size + 3) 130 j0 (aggO OC.zero) 2 32 Tryz.underlying22 hj0 hy0 hy1 hy2 rfl (by decide) v os.length (flat recO os) rfl HOW7.out _ _ 1 _ (recO ⟨A1, n1, c1, false⟩) rfl ⟨rfl, fun _ => ⟨_, rfl, Nat.lt_succ_self _, news_at _ _ _⟩⟩ (recO_one _) (by unfold maxLen; omega) (by omega) (alloc_le4 hlo.out _) ?_)
            intro v7 w7 hown hgr hat
            obtain ⟨A7, c7, rfl, _⟩ := own_slice hown
            have hy0' := (J7.out.b2.grown hgr (fun e => own_ne HOW7.out (g := w.heap.size + 2) (by omega) e.symm)).cell 0
            have hyz := (J7.out.b2.grown hgr (fun e => own_ne HOW7.out (g := w.heap.size + 2) (by omega) e.symm)).frozen
            simp at hy0'
            have J8 := Lib.hid (J7.out.add HLE.out HEL7.out HOW7.out rfl hown hgr (by rw [size_alloc]; exact hat) HQ7.out)
            clear hown hgr hat J7 HOW7 HEL7 HQ7 HOW HEL r0 rz
            go_wp2_with fail
            clear hy0' hyz
            generalize w7.setCell ⟨w.heap.size + 2, 0, none⟩ (.slice A7 (os.length + 1) c7) = w8 at *
            (try go_wp2_with fail)
            go_roundw
            case rel => exact ⟨i + 1, ks ++ [⟨splitP p.2.s, false⟩], true, _, hlt, by go_num, by rw [List.length_append]; have := HKL.out; simp; omega, J8.out, HF.out⟩
            case measure => simp [intOf]; omega
      have hk4b : (p.1.k == 4) = false := by simpa using hk4
      by_cases hk3 : p.1.k = 3
      · have hk3b : (p.1.k == 3) = true := by simpa using hk3
        have hk3c : (p.1.k != 3) = false := by rw [hk3]; rfl
        by_cases hn1 : p.1.n = 1
        · have hn1b : (p.1.n == 1) = true := by simpa using hn1
          have hn1c : (p.1.n != 1) = false := by rw [hn1]; rfl
          have HF : Hid (parR x = parL (x.d.drop (i + 1)) (ks ++ [⟨splitP p.2.s, false⟩]) ha) := by rw [Hid, HA.out, HDR.out, parL_one HPA.out (by rw [HO1.out, hk3b, hn1b]; rfl)]
          have JX : True := trivial
          clear hk3 hn1 hk4
          have r1 := J3.out.b2.cell 1
          have rz1 := J3.out.b2.frozen
          simp at r1
          cases ha
          · have J4 := Lib.hid (J3.out.flag false)
            have HQ : Hid (ORF (fun b => w.heap.size + 3 ≤ b ∧ v.ownBlock ≠ some b) (w4.setCell ⟨w.heap.size + 2, 1, none⟩ (.bool false)) ⟨A1, n1, c1, false⟩ ⟨splitP p.2.s, false⟩) := HQ3.out.keep (by simp [World.setCell]) fun b hF _ => ⟨hF, Below.heap_setCell _ _ _ b (by show b ≠ w.heap.size + 2; omega)⟩
            go_upto_region 15 with fail
            generalize w4.setCell ⟨w.heap.size + 2, 1, none⟩ (.bool false) = wx at *
            clear r1 rz1 y0 y1 y2 y3 y4 J3 HQ3 JV JX
            obtain ⟨os, hown, hlen, hel⟩ := J4.out.os
            have r0 := J4.out.b2.cell 0
            have rz := J4.out.b2.frozen
            simp at r0
            have HOW := Lib.hid hown
            have HLE := Lib.hid hlen
            have HEL := Lib.hid hel
            have hlo := Lib.hid J4.out.b2.lt
            have hol : os.length ≤ 2000 := by have := HKL.out; omega
            clear hown hlen hel
            go_upto_region 15 with fail
            have LA := (Below.refl wx.heap.size wx).alloc (Nat.le_refl _) (Obj.cells #[.slice A1 n1 c1, .bool false] 130)
            have J7 := Lib.hid (J4.out.step LA)
            have HOW7 := Lib.hid (own_step HOW.out LA)
            have HEL7 : Hid (∀ (i : Nat) (o : OC) (q : Od), os[i]? = some o → ks[i]? = some q → ORF (fun b => w.heap.size + 3 ≤ b ∧ v.ownBlock ≠ some b) (wx.alloc (Obj.cells #[.slice A1 n1 c1, .bool false] 130)) o q) := fun i o q hi hq => (HEL.out i o q hi hq).keep LA.size fun b hF hl => ⟨hF, LA.block b hl⟩
            have HQ7 : Hid (ORF (fun b => w.heap.size + 3 ≤ b ∧ v.ownBlock ≠ some b) (wx.alloc (Obj.cells #[.slice A1 n1 c1, .bool false] 130)) ⟨A1, n1, c1, false⟩ ⟨splitP p.2.s, false⟩) := HQ.out.keep LA.size fun b hF hl => ⟨hF, LA.block b hl⟩
            clear LA
            go_wp2_with (at_builtin; refine wpList_append_any _ rfl _ _ 22 rfl (w.heap.size + 3) 130 j0 (aggO OC.zero) 2 32 Tryz.underlying22 hj0 hy0 hy1 hy2 rfl (by decide) v os.length (flat recO os) rfl HOW7.out _ _ 1 _ (recO ⟨A1, n1, c1, false⟩) rfl ⟨rfl, fun _ => ⟨_, rfl, Nat.lt_succ_self _, news_at _ _ _⟩⟩ (recO_one _) (by unfold maxLen; omega) (by omega) (alloc_le4 hlo.out _) ?_)
            intro v7 w7 hown hgr hat
            obtain ⟨A7, c7, rfl, _⟩ := own_slice hown
            have hy0' := (J7.out.b2.grown hgr (fun e => own_ne HOW7.out (g := w.heap.size + 2) (by omega) e.symm)).cell 0
            have hyz := (J7.out.b2.grown hgr (fun e => own_ne HOW7.out (g := w.heap.size + 2) (by omega) e.symm)).frozen
            simp at hy0'
            have J8 := Lib.hid (J7.out.add HLE.out HEL7.out HOW7.out rfl hown hgr (by rw [size_alloc]; exact hat) HQ7.out)
            clear hown hgr hat J7 HOW7 HEL7 HQ7 HOW HEL r0 rz
            go_wp2_with fail
            clear hy0' hyz
            generalize w7.setCell ⟨w.heap.size + 2, 0, none⟩ (.slice A7 (os.length + 1) c7) = w8 at *
            (try go_wp2_with fail)
            go_roundw
            case rel => exact ⟨i + 1, ks ++ [⟨splitP p.2.s, false⟩], false, _, hlt, by go_num, by rw [List.length_append]; have := HKL.out; simp; omega, J8.out, HF.out⟩
            case measure => simp [intOf]; omega
          · have J4 := Lib.hid (J3.out.flag true)
            have HQ : Hid (ORF (fun b => w.heap.size + 3 ≤ b ∧ v.ownBlock ≠ some b) (w4.setCell ⟨w.heap.size + 2, 1, none⟩ (.bool true)) ⟨A1, n1, c1, false⟩ ⟨splitP p.2.s, false⟩) := HQ3.out.keep (by simp [World.setCell]) fun b hF _ => ⟨hF, Below.heap_setCell _ _ _ b (by show b ≠ w.heap.size + 2; omega)⟩
            go_upto_region 15 with fail
            generalize w4.setCell ⟨w.heap.size + 2, 1, none⟩ (.bool true) = wx at *
            clear r1 rz1 y0 y1 y2 y3 y4 J3 HQ3 JV JX
            obtain ⟨os, hown, hlen, hel⟩ := J4.out.os
            have r0 := J4.out.b2.cell 0
            have rz := J4.out.b2.frozen
            simp at r0
            have HOW := Lib.hid hown
            have HLE := Lib.hid hlen
            have HEL := Lib.hid hel
            have hlo := Lib.hid J4.out.b2.lt
            have hol : os.length ≤ 2000 := by have := HKL.out; omega
            clear hown hlen hel
            go_upto_region 15 with fail
            have LA := (Below.refl wx.heap.size wx).alloc (Nat.le_refl _) (Obj.cells #[.slice A1 n1 c1, .bool false] 130)
            have J7 := Lib.hid (J4.out.step LA)
            have HOW7 := Lib.hid (own_step HOW.out LA)
            have HEL7 : Hid (∀ (i : Nat) (o : OC) (q : Od), os[i]? = some o → ks[i]? = some q → ORF (fun b => w.heap.size + 3 ≤ b ∧ v.ownBlock ≠ some b) (wx.alloc (Obj.cells #[.slice A1 n1 c1, .bool false] 130)) o q) := fun i o q hi hq => (HEL.out i o q hi hq).keep LA.size fun b hF hl => ⟨hF, LA.block b hl⟩
            have HQ7 : Hid (ORF (fun b => w.heap.size + 3 ≤ b ∧ v.ownBlock ≠ some b) (wx.alloc (Obj.cells #[.slice A1 n1 c1, .bool false] 130)) ⟨A1, n1, c1, false⟩ ⟨splitP p.2.s, false⟩) := HQ.out.keep LA.size fun b hF hl => ⟨hF, LA.block b hl⟩
            clear LA
            go_wp2_with (at_builtin; refine wpList_append_any _ rfl _ _ 22 rfl (w.heap.size + 3) 130 j0 (aggO OC.zero) 2 32 Tryz.underlying22 hj0 hy0 hy1 hy2 rfl (by decide) v os.length (flat recO os) rfl HOW7.out _ _ 1 _ (recO ⟨A1, n1, c1, false⟩) rfl ⟨rfl, fun _ => ⟨_, rfl, Nat.lt_succ_self _, news_at _ _ _⟩⟩ (recO_one _) (by unfold maxLen; omega) (by omega) (alloc_le4 hlo.out _) ?_)
            intro v7 w7 hown hgr hat
            obtain ⟨A7, c7, rfl, _⟩ := own_slice hown
            have hy0' := (J7.out.b2.grown hgr (fun e => own_ne HOW7.out (g := w.heap.size + 2) (by omega) e.symm)).cell 0
            have hyz := (J7.out.b2.grown hgr (fun e => own_ne HOW7.out (g := w.heap.size + 2) (by omega) e.symm)).frozen
            simp at hy0'
            have J8 := Lib.hid (J7.out.add HLE.out HEL7.out HOW7.out rfl hown hgr (by rw [size_alloc]; exact hat) HQ7.out)
            clear hown hgr hat J7 HOW7 HEL7 HQ7 HOW HEL r0 rz
            go_wp2_with fail
            clear hy0' hyz
            generalize w7.setCell ⟨w.heap.size + 2, 0, none⟩ (.slice A7 (os.length + 1) c7) = w8 at *
            (try go_wp2_with fail)
            go_roundw
            case rel => exact ⟨i + 1, ks ++ [⟨splitP p.2.s, false⟩], true, _, hlt, by go_num, by rw [List.length_append]; have := HKL.out; simp; omega, J8.out, HF.out⟩
            case measure => simp [intOf]; omega
        · have hn1b : (p.1.n == 1) = false := by simpa using hn1
          have hn1c : (p.1.n != 1) = true := by simpa using hn1
          have HF : Hid (parR x = (([], false), 4)) := by rw [Hid, HA.out, HDR.out, parL_form HPA.out (by rw [HO1.out, hk3b, hn1b]; rfl) (by rw [HO2.out, hk4b]; rfl)]
          clear hk3 hn1 hk4
          have q0 := J3.out.b1.cell 0
          have q1 := J3.out.b1.cell 1
          have qz := J3.out.b1.frozen
          simp at q0 q1
          have E := Lib.hid (J3.out.b1.putK (v := .slice none 0 0) (ha := false))
          have EB := Lib.hid (ParOk.err HF.out (below_setK J3.out.bel (g := w.heap.size + 1) (by omega) (.slice none 0 0) false))
          go_wp2_with fail
          exact bodyPost_ret (results_key_err rfl _ (w.heap.size + 1) rfl (.int .i64 4) rfl _ (.slice none 0 0) false E.out) rfl EB.out
      have hk3b : (p.1.k == 3) = false := by simpa using hk3
      have hk3c : (p.1.k != 3) = true := by simpa using hk3
      have HF : Hid (parR x = (([], false), 4)) := by rw [Hid, HA.out, HDR.out, parL_form HPA.out (by rw [HO1.out, hk3b]; rfl) (by rw [HO2.out, hk4b]; rfl)]
      clear hk3 hk4
      have q0 := J3.out.b1.cell 0
      have q1 := J3.out.b1.cell 1
      have qz := J3.out.b1.frozen
      simp at q0 q1
      have E := Lib.hid (J3.out.b1.putK (v := .slice none 0 0) (ha := false))
      have EB := Lib.hid (ParOk.err HF.out (below_setK J3.out.bel (g := w.heap.size + 1) (by omega) (.slice none 0 0) false))
      go_wp2_with fail
      exact bodyPost_ret (results_key_err rfl _ (w.heap.size + 1) rfl (.int .i64 4) rfl _ (.slice none 0 0) false E.out) rfl EB.out
    · obtain rfl : i = cdn := by omega
      have HF : Hid (parR x = if keyE ks ha = 0 then ((ks, ha), 0) else (([], false), keyE ks ha)) := by
        rw [Hid, HA.out, List.drop_of_length_le (by have h1 : _ = fs0.length := HDn.out; have h2 := congrArg List.length HFS.out; rw [List.length_map] at h2; omega)]
        rfl
      obtain ⟨A9, c9, rfl, hks⟩ := J0.out.ks (by have := HKL.out; omega)
      have HKS := Lib.hid hks
      clear hks
      have r0 := J0.out.b2.cell 0
      have r1 := J0.out.b2.cell 1
      simp at r0 r1
      go_wp2_with fail
      refine (rshardkey_any ks ha A9 ks.length c9 _ HKS.out).mono ?_
      rintro e w5 ⟨rfl, hb⟩
      have J5 := Lib.hid (J0.out.step hb)
      have HK5 := Lib.hid (HKS.out.step hb)
      clear hb J0 HKS r0 r1 a0 a1 a2 a3 a4
      obtain ⟨E9, hE9⟩ : ∃ E9, keyE ks ha = E9 := ⟨_, rfl⟩
      rw [hE9] at HF ⊢
      by_cases he : E9 = 0
      · subst he
        have HF2 : Hid (parR x = ((ks, ha), 0)) := by rw [Hid, HF.out, if_pos rfl]
        have q0 := J5.out.b1.cell 0
        have q1 := J5.out.b1.cell 1
        have qz := J5.out.b1.frozen
        have r0 := J5.out.b2.cell 0
        have r1 := J5.out.b2.cell 1
        simp at q0 q1 r0 r1
        have E := Lib.hid (J5.out.b1.putK (v := .slice A9 ks.length c9) (ha := ha))
        have EB : Hid (ParOk x w (.returned (.tuple #[.agg #[.slice A9 ks.length c9, .bool ha], .int .i64 0])) (setK w5 (w.heap.size + 1) (.slice A9 ks.length c9) ha)) := by
          refine ⟨A9, ks.length, c9, by rw [HF2.out], ?_, below_setK J5.out.bel (g := w.heap.size + 1) (by omega) _ _⟩
          rw [HF2.out]
          obtain ⟨os, h1, h2, h3⟩ := J5.out.os
          obtain ⟨A', c', e', hs'⟩ := SR.of_own recO_length (own_keep h1 (w' := setK w5 (w.heap.size + 1) (.slice A9 ks.length c9) ha) fun g hg => heap_setK _ _ _ _ g (by have := own_ge h1 g hg; omega)) rfl
          rw [h2] at e' hs'
          injection e' with e1 e2 e3
          subst e1 e3
          exact ⟨os, hs', by have := HKL.out; unfold reach; omega, h2, fun i o q hi hq => by
            have := (h3 i o q hi hq).keep (G := fun _ => True) (w' := setK w5 (w.heap.size + 1) (.slice A9 ks.length c9) ha) (by simp [setK, World.setCell]) fun b hF _ => ⟨trivial, heap_setK _ _ _ _ b (by omega)⟩
            exact ⟨this.d, this.st.st⟩⟩
        go_wp2_with fail
        exact bodyPost_ret (results_key_err rfl _ (w.heap.size + 1) rfl (.int .i64 0) rfl _ (.slice A9 ks.length c9) ha E.out) rfl EB.out
      · have HF2 : Hid (parR x = (([], false), E9)) := by rw [Hid, HF.out, if_neg he]
        have heb : (E9 != 0) = true := by simpa using he
        clear he
        have q0 := J5.out.b1.cell 0
        have q1 := J5.out.b1.cell 1
        have qz := J5.out.b1.frozen
        simp at q0 q1
        have E := Lib.hid (J5.out.b1.putK (v := .slice none 0 0) (ha := false))
        have EB := Lib.hid (ParOk.err HF2.out (below_setK J5.out.bel (g := w.heap.size + 1) (by omega) (.slice none 0 0) false))
        go_wp2_with fail
        exact bodyPost_ret (results_key_err rfl _ (w.heap.size + 1) rfl (.int .i64 E9) rfl _ (.slice none 0 0) false E.out) rfl EB.out

end Go.Proofs.YtlmmgjgkmbmgpaaGreatDoor


/- The contract of the reference's Formed. Printed by gen_shformed.py. -/
namespace Go.Proofs.YtlmmgjgkmbmgpaaGreatDoor
open Go.RowKit

theorem sizeL_len : ∀ l : List Val, l.length ≤ sizeL l
  | [] => Nat.zero_le _
  | x :: r => by
    have := sizeL_len r
    have h2 := size_parts x
    rw [sizeL, List.length_cons]
    omega
theorem formed_facts {x : Val} (h : formedV x = true) : x.d.length ≤ 1024 ∧ ∀ f ∈ x.d, f.s.size ≤ 128 := by
  unfold formedV at h
  simp only [Bool.and_eq_true, decide_eq_true_eq] at h
  obtain ⟨⟨h1, _⟩, h3⟩ := h
  have hs := (SoundV_iff wideB x).1 (soundB_iff.1 h3)
  refine ⟨?_, fun f hf => ?_⟩
  · rcases hs.1.2.2.2.1 with hk | hk
    · have h5 := size_parts x
      unfold Val.parts at h5
      rw [if_neg (by omega), if_pos hk] at h5
      have h6 := sizeL_len (x.d.map Fld.v)
      rw [List.length_map] at h6
      omega
    · omega
  have := hs.2.2.2.1 f hf
  unfold wideB at this
  simp only [Bool.and_eq_true, decide_eq_true_eq] at this
  exact this.1.2

set_option maxHeartbeats 1000000 in
theorem rformedV_any (x : Val) (c : VC) (w : World) (h : RW w c x) : Calls Tryz.prog 26 #[c.val] w fun e w' => e = .returned (.bool (formedV x)) ∧ Below w.heap.size w w' := by
  have H := Lib.hid (h.alloc (Obj.cells c.arr 46))
  have HB : Hid (Blk (w.alloc (Obj.cells c.arr 46)) w.heap.size 46 c.arr) := Blk.new_at rfl
  have HZ := Lib.hid ((Below.refl w.heap.size w).alloc (Nat.le_refl _) (Obj.cells c.arr 46))
  clear h
  go_enter Tryz.func26, Tryz.ntmps26
  go_wp2_with fail
  refine (rdepthV_any x c _ H.out).mono ?_
  rintro e w1 ⟨rfl, hb1⟩
  obtain ⟨a0, a1, a2, a3, a4⟩ := VAt.of_blk (HB.out.step hb1)
  have HB1 := Lib.hid (HB.out.step hb1)
  have H1 := Lib.hid (H.out.step hb1)
  have HZ1 := Lib.hid (HZ.out.step' hb1)
  clear hb1
  by_cases h1 : depthV x ≤ 16
  · have HD1 : Hid (decide (x.height ≤ 16) = true) := by rw [Hid, ← depth_le]; exact decide_eq_true h1
    go_wp2_with fail
    refine (rnodesV_any x c _ H1.out).mono ?_
    rintro e w2 ⟨rfl, hb2⟩
    clear a0 a1 a2 a3 a4
    obtain ⟨a0, a1, a2, a3, a4⟩ := VAt.of_blk (HB1.out.step hb2)
    have H2 := Lib.hid (H1.out.step hb2)
    have HZ2 := Lib.hid (HZ1.out.step' hb2)
    clear hb2
    by_cases h2 : nodesV x ≤ 1024
    · have HD2 : Hid (decide (x.size ≤ 1024) = true) := by rw [Hid, ← nodes_le]; exact decide_eq_true h2
      go_wp2_with fail
      refine (rformed_any x false c _ H2.out).mono ?_
      rintro e w3 ⟨rfl, hb3⟩
      go_wp2_with fail
      go_ret
      exact ⟨by unfold formedV; rw [HD1.out, HD2.out]; rfl, HZ2.out.step' hb3⟩
    · have HD2 : Hid (decide (x.size ≤ 1024) = false) := by rw [Hid, ← nodes_le]; exact decide_eq_false h2
      go_wp2_with fail
      go_ret
      exact ⟨by unfold formedV; rw [HD2.out]; rfl, HZ2.out⟩
  · have HD1 : Hid (decide (x.height ≤ 16) = false) := by rw [Hid, ← depth_le]; exact decide_eq_false h1
    go_wp2_with fail
    go_ret
    exact ⟨by unfold formedV; rw [HD1.out, Bool.and_false]; rfl, HZ1.out⟩

end Go.Proofs.YtlmmgjgkmbmgpaaGreatDoor

/- The walk of ShardkeyForms. -/
namespace Go.Proofs.YtlmmgjgkmbmgpaaGreatDoor
open Go.RowKit
set_option linter.unusedSimpArgs false

set_option maxRecDepth 100000 in
set_option maxHeartbeats 1000000 in
theorem same48_eq (ks : List Od) (ha : Bool) (A B : Option Addr) (n c k d : Nat) (w : World) (h : KS w A n c ks) (h' : KS w B k d ks) :
    Calls Tryz.prog 32 #[.agg #[.slice A n c, .bool ha], .agg #[.slice B k d, .bool ha]] w fun e w' => e = .returned (.bool true) ∧ Below w.heap.size w w' := by
  have H := Lib.hid h
  have H' := Lib.hid h'
  have B0 : Hid (Blk ((w.alloc (Obj.cells #[.slice A n c, .bool ha] 24)).alloc (Obj.cells #[.slice B k d, .bool ha] 24)) w.heap.size 24 #[.slice A n c, .bool ha]) := (Blk.new_at rfl).alloc _
  have B1 : Hid (Blk ((w.alloc (Obj.cells #[.slice A n c, .bool ha] 24)).alloc (Obj.cells #[.slice B k d, .bool ha] 24)) (w.heap.size + 1) 24 #[.slice B k d, .bool ha]) := Blk.new_at (by simp)
  have BE : Hid (Below w.heap.size w ((w.alloc (Obj.cells #[.slice A n c, .bool ha] 24)).alloc (Obj.cells #[.slice B k d, .bool ha] 24))) := ((Below.refl _ _).alloc (Nat.le_refl _) _).alloc (by simp) _
  clear h h'
  go_enter Tryz.func32, Tryz.ntmps32
  go_upto_region 1 with fail
  change Code.wp _ _ _ _ ((w.alloc (Obj.cells #[.slice A n c, .bool ha] 24)).alloc (Obj.cells #[.slice B k d, .bool ha] 24))
  generalize (w.alloc (Obj.cells #[.slice A n c, .bool ha] 24)).alloc (Obj.cells #[.slice B k d, .bool ha] 24) = wa at *
  have p0 := B0.out.cell 0
  have p1 := B0.out.cell 1
  have q0 := B1.out.cell 0
  have q1 := B1.out.cell 1
  simp at p0 p1 q0 q1
  have hs := sameO23_any ks ks A B n c k d wa (H.out.step BE.out) (H'.out.step BE.out)
  rw [sameK_refl] at hs
  have HS := Lib.hid hs
  have hbb : (ha == ha) = true := by simp
  clear hs
  go_wp2_with fail
  refine HS.out.mono ?_
  rintro e w1 ⟨rfl, hb⟩
  have BF := Lib.hid (BE.out.step' hb)
  clear hb
  go_wp2_with fail
  go_ret
  exact ⟨rfl, BF.out⟩

set_option maxRecDepth 100000 in
set_option maxHeartbeats 4000000 in
theorem shardkeyForms_walk (ks : List Od) (ha : Bool) (A : Option Addr) (n k : Nat) (x : Val) (c : VC) (w : World) (hT : Tabs w) (hM : MaxL w) (h : KS w A n k ks) (hx : RW w c x) :
    Calls Tryz.prog 6 #[.agg #[.slice A n k, .bool ha], c.val] w fun e w' => e = .returned (.bool true) ∧ Below w.heap.size w w' := by
  have HT := Lib.hid hT
  have HM := Lib.hid hM
  have H := Lib.hid h
  have HX := Lib.hid hx
  have hnz : n ≤ 140737488355328 := by obtain ⟨os, h⟩ := h; have := h.sz; unfold reach at this; omega
  have HAW := Lib.hid fun (wr : World) (hb : Below w.heap.size w wr) => awake48_any wr (hT.step hb)
  have B0 : Hid (Blk ((w.alloc (Obj.cells #[.slice A n k, .bool ha] 24)).alloc (Obj.cells c.arr 46)) w.heap.size 24 #[.slice A n k, .bool ha]) := (Blk.new_at rfl).alloc _
  have B1 : Hid (Blk ((w.alloc (Obj.cells #[.slice A n k, .bool ha] 24)).alloc (Obj.cells c.arr 46)) (w.heap.size + 1) 46 c.arr) := Blk.new_at (by simp)
  have BE : Hid (Below w.heap.size w ((w.alloc (Obj.cells #[.slice A n k, .bool ha] 24)).alloc (Obj.cells c.arr 46))) := ((Below.refl _ _).alloc (Nat.le_refl _) _).alloc (by simp) _
  clear hT hM h hx
  go_enter Tryz.func6, Tryz.ntmps6
  go_upto_region 1 with fail
  change Code.wp _ _ _ _ ((w.alloc (Obj.cells #[.slice A n k, .bool ha] 24)).alloc (Obj.cells c.arr 46))
  generalize (w.alloc (Obj.cells #[.slice A n k, .bool ha] 24)).alloc (Obj.cells c.arr 46) = wa at *
  have p0 := B0.out.cell 0
  have p1 := B0.out.cell 1
  simp at p0 p1
  obtain ⟨a0, a1, a2, a3, a4⟩ := VAt.of_blk B1.out
  simp only [Nat.zero_add] at a0 a1 a2 a3 a4
  by_cases hn20 : 20 < n
  · have hn20z : (20 : Int) < (n : Int) := by omega
    go_wp2_with fail
    refine (HAW.out _ BE.out).mono ?_
    rintro e w1 ⟨rfl, hb⟩
    have CE := Lib.hid (BE.out.step' hb)
    clear hb
    go_wp2_with fail
    go_ret
    exact ⟨rfl, CE.out⟩
  have hn20z : (n : Int) ≤ 20 := by omega
  clear hn20
  have HFO := Lib.hid (rformedV_any x c wa (HX.out.step BE.out))
  cases hf : formedV x
  · rw [hf] at HFO
    clear hf
    go_wp2_with fail
    refine HFO.out.mono ?_
    rintro e w1 ⟨rfl, hb⟩
    have BF := Lib.hid (BE.out.step' hb)
    clear hb p0 p1 a0 a1 a2 a3 a4
    go_wp2_with fail
    refine (HAW.out _ BF.out).mono ?_
    rintro e w2 ⟨rfl, hb⟩
    have CE := Lib.hid (BF.out.step' hb)
    clear hb
    go_wp2_with fail
    go_ret
    exact ⟨rfl, CE.out⟩
  rw [hf] at HFO
  have hff := formed_facts hf
  have HFF := Lib.hid hff
  clear hf hff
  go_wp2_with fail
  refine HFO.out.mono ?_
  rintro e w1 ⟨rfl, hb⟩
  replace B0 := Lib.hid (B0.out.step hb)
  replace B1 := Lib.hid (B1.out.step hb)
  replace BE := Lib.hid (BE.out.step' hb)
  clear hb HFO p0 p1 a0 a1 a2 a3 a4
  obtain ⟨a0, a1, a2, a3, a4⟩ := VAt.of_blk B1.out
  simp only [Nat.zero_add] at a0 a1 a2 a3 a4
  go_wp2_with fail
  refine (sparse_any x c _ (HM.out.step BE.out) (HX.out.step BE.out) (by have := HFF.out.1; omega) (fun f hf => by have := HFF.out.2 f hf; omega)).mono ?_
  rintro e w2 ⟨A1, n1, c1, rfl, hk1, hb⟩
  replace B0 := Lib.hid (B0.out.step hb)
  replace B1 := Lib.hid (B1.out.step hb)
  replace BE := Lib.hid (BE.out.step' hb)
  have K1 := Lib.hid hk1
  clear hb hk1 a0 a1 a2 a3 a4
  obtain ⟨⟨⟨pk, ph⟩, pe⟩, hpar⟩ : ∃ P, parR x = P := ⟨_, rfl⟩
  rw [hpar] at K1 ⊢
  have HP := Lib.hid hpar
  clear hpar
  simp only at K1 ⊢
  go_upto_region 4 with fail
  change Code.wp _ _ _ _ (w2.alloc (Obj.cells #[.slice A1 n1 c1, .bool ph] 24))
  have P1 : Hid (Blk (w2.alloc (Obj.cells #[.slice A1 n1 c1, .bool ph] 24)) w2.heap.size 24 #[.slice A1 n1 c1, .bool ph]) := Blk.new_at rfl
  replace B0 := Lib.hid (B0.out.alloc (Obj.cells #[.slice A1 n1 c1, .bool ph] 24))
  replace B1 := Lib.hid (B1.out.alloc (Obj.cells #[.slice A1 n1 c1, .bool ph] 24))
  replace BE := Lib.hid (BE.out.alloc BE.out.size (Obj.cells #[.slice A1 n1 c1, .bool ph] 24))
  replace K1 := Lib.hid (K1.out.step ((Below.refl w2.heap.size w2).alloc (Nat.le_refl _) (Obj.cells #[.slice A1 n1 c1, .bool ph] 24)))
  generalize w2.alloc (Obj.cells #[.slice A1 n1 c1, .bool ph] 24) = w3 at *
  generalize w2.heap.size = g5 at *
  obtain ⟨a0, a1, a2, a3, a4⟩ := VAt.of_blk B1.out
  simp only [Nat.zero_add] at a0 a1 a2 a3 a4
  go_wp2_with fail
  refine (rsparse_any x c _ (HX.out.step BE.out) (by have := HFF.out.1; omega) (fun f hf => by have := HFF.out.2 f hf; omega)).mono ?_
  rintro e w4 ⟨A2, n2, c2, rfl, hk2, hb⟩
  replace B0 := Lib.hid (B0.out.step hb)
  replace P1 := Lib.hid (P1.out.step hb)
  replace K1 := Lib.hid (K1.out.step hb)
  replace BE := Lib.hid (BE.out.step' hb)
  have K2 := Lib.hid hk2
  clear hb hk2 a0 a1 a2 a3 a4 B1
  rw [HP.out] at K2 ⊢
  simp only at K2 ⊢
  go_upto_region 5 with fail
  change Code.wp _ _ _ _ (w4.alloc (Obj.cells #[.slice A2 n2 c2, .bool ph] 24))
  have P2 : Hid (Blk (w4.alloc (Obj.cells #[.slice A2 n2 c2, .bool ph] 24)) w4.heap.size 24 #[.slice A2 n2 c2, .bool ph]) := Blk.new_at rfl
  replace B0 := Lib.hid (B0.out.alloc (Obj.cells #[.slice A2 n2 c2, .bool ph] 24))
  replace P1 := Lib.hid (P1.out.alloc (Obj.cells #[.slice A2 n2 c2, .bool ph] 24))
  replace BE := Lib.hid (BE.out.alloc BE.out.size (Obj.cells #[.slice A2 n2 c2, .bool ph] 24))
  have LB := (Below.refl w4.heap.size w4).alloc (Nat.le_refl _) (Obj.cells #[.slice A2 n2 c2, .bool ph] 24)
  replace K1 := Lib.hid (K1.out.step LB)
  replace K2 := Lib.hid (K2.out.step LB)
  clear LB
  generalize w4.alloc (Obj.cells #[.slice A2 n2 c2, .bool ph] 24) = w5 at *
  generalize w4.heap.size = g7 at *
  have p0 := B0.out.cell 0
  have p1 := B0.out.cell 1
  have r0 := P1.out.cell 0
  have r1 := P1.out.cell 1
  have s0 := P2.out.cell 0
  have s1 := P2.out.cell 1
  simp at p0 p1 r0 r1 s0 s1
  have g0 : ∀ kk : BW w5, kk.val.cell? ⟨w.heap.size, 0, none⟩ = some (.slice A n k) := fun kk => kk.cell p0
  have g1 : ∀ kk : BW w5, kk.val.cell? ⟨w.heap.size, 1, none⟩ = some (.bool ha) := fun kk => kk.cell p1
  have h0 : ∀ kk : BW w5, kk.val.cell? ⟨g5, 0, none⟩ = some (.slice A1 n1 c1) := fun kk => kk.cell r0
  have h1 : ∀ kk : BW w5, kk.val.cell? ⟨g5, 1, none⟩ = some (.bool ph) := fun kk => kk.cell r1
  have i0 : ∀ kk : BW w5, kk.val.cell? ⟨g7, 0, none⟩ = some (.slice A2 n2 c2) := fun kk => kk.cell s0
  have i1 : ∀ kk : BW w5, kk.val.cell? ⟨g7, 1, none⟩ = some (.bool ph) := fun kk => kk.cell s1
  obtain ⟨E, hE⟩ : ∃ E, keyE ks ha = E := ⟨_, rfl⟩
  have HE := Lib.hid hE
  clear hE p0 p1 r0 r1 s0 s1
  have C1 : Hid (∀ kk : BW w5, Calls Tryz.prog 30 #[.agg #[.slice A n k, .bool ha]] kk.val fun e w'' => e = .returned (.int .i64 E) ∧ ∃ kk : BW w5, w'' = kk.val) := fun kk =>
    Calls.bw (by have := shardkey_any ks ha A n k kk.val ((H.out.step BE.out).step kk.below); rw [HE.out] at this; exact this)
  have C2 : Hid (∀ kk : BW w5, Calls Tryz.prog 31 #[.agg #[.slice A n k, .bool ha]] kk.val fun e w'' => e = .returned (.int .i64 E) ∧ ∃ kk : BW w5, w'' = kk.val) := fun kk =>
    Calls.bw (by have := rshardkey_any ks ha A n k kk.val ((H.out.step BE.out).step kk.below); rw [HE.out] at this; exact this)
  have C3 : Hid (∀ kk : BW w5, Calls Tryz.prog 32 #[.agg #[.slice A1 n1 c1, .bool ph], .agg #[.slice A2 n2 c2, .bool ph]] kk.val fun e w'' => e = .returned (.bool true) ∧ ∃ kk : BW w5, w'' = kk.val) := fun kk =>
    Calls.bw (same48_eq pk ph A1 A2 n1 c1 n2 c2 kk.val (K1.out.step kk.below) (K2.out.step kk.below))
  have C4 : Hid (∀ kk : BW w5, Calls Tryz.prog 27 #[] kk.val fun e w'' => e = .returned (.bool true) ∧ ∃ kk : BW w5, w'' = kk.val) := fun kk =>
    Calls.bw (HAW.out _ (BE.out.step' kk.below))
  have e1 : (E == E) = true := by simp
  have e2 : (pe == pe) = true := by simp
  by_cases hpe : pe = 0
  · subst hpe
    have hkv : keyE pk ph = 0 := by have := parR_ok x (by rw [HP.out]); rw [HP.out] at this; exact this
    have C5 : Hid (∀ kk : BW w5, Calls Tryz.prog 30 #[.agg #[.slice A1 n1 c1, .bool ph]] kk.val fun e w'' => e = .returned (.int .i64 0) ∧ ∃ kk : BW w5, w'' = kk.val) := fun kk =>
      Calls.bw (by have := shardkey_any pk ph A1 n1 c1 kk.val (K1.out.step kk.below); rw [hkv] at this; exact this)
    clear hkv
    refine wp_region_bw (by kernel_rfl) (by kernel_rfl) ?_
    repeat (go_big_quiet_step (first | (with_reducible exact C1.out _) | (with_reducible exact C2.out _) | (with_reducible exact C3.out _) | (with_reducible exact C5.out _) | (with_reducible exact C4.out _)))
    refine wpQuiet_nil ?_
    rintro _ ⟨kw, rfl⟩
    have CE := Lib.hid (BE.out.step' kw.below)
    clear g0 g1 h0 h1 i0 i1 C1 C2 C3 C4 C5
    generalize kw.val = w6 at *
    go_wp2_with fail
    go_ret
    exact ⟨rfl, CE.out⟩
  · have hpb : (pe != 0) = true := by simpa using hpe
    clear hpe
    refine wp_region_bw (by kernel_rfl) (by kernel_rfl) ?_
    repeat (go_big_quiet_step (first | (with_reducible exact C1.out _) | (with_reducible exact C2.out _) | (with_reducible exact C3.out _) | (with_reducible exact C4.out _)))
    refine wpQuiet_nil ?_
    rintro _ ⟨kw, rfl⟩
    have CE := Lib.hid (BE.out.step' kw.below)
    clear g0 g1 h0 h1 i0 i1 C1 C2 C3 C4
    generalize kw.val = w6 at *
    go_wp2_with fail
    go_ret
    exact ⟨rfl, CE.out⟩

end Go.Proofs.YtlmmgjgkmbmgpaaGreatDoor


/- The law ShardkeyForms returns true for every input, and each argument reads behind the call as it read before; the tables of unicode/utf8 that it reads are tied to the program's text. Conditions: none beyond the card. The frame is printed by gen_card.py. -/
namespace Go.Proofs.YtlmmgjgkmbmgpaaGreatDoor.shardkeyForms
open Go Go.Shelf Go.ChangeShapes Go.WideShapes Go.ChangeAt Go.RowKit Go.Lib
set_option linter.unusedVariables false

theorem own : ownKnob Tryz.prog.godebug = none := by kernel_rfl
theorem laidOut : laidOutB Tryz.prog = true := by kernel_rfl
theorem accept_eq : Rows.laid_unicode_utf8_acceptRanges = Lib.acceptData := by kernel_rfl
theorem first_eq : Rows.laid_unicode_utf8_first = Lib.firstData := Go.Pinned.utf8First_eq
noncomputable def laidWorld (os : Os) : World :=
  let w0 := World.holding Tryz.prog os ⟨#[], #[], []⟩
  let put (h : Array Obj) (g : Nat) (cs : Array Value) : Array Obj := h.modify g fun
    | .cells _ t frozen => .cells cs t frozen
    | o => o
  let h1 := put w0.heap 1 (Lib.firstTab.map fun z => Value.int .u8 z).toArray
  let h2 := put h1 2 ((List.range 16).flatMap fun i => [Value.int .u8 (Lib.accLo i), Value.int .u8 (Lib.accHi i)]).toArray
  { w0 with heap := h2 }
theorem laid_met (os : Os) (args : Array Value) : laidMet Tryz.prog Rows.shardkeyFormsRow.laid ((laidWorld os).forCall (fun _ _ => 0) ⟨#[], args, []⟩).memory :=
  (LaidIn.of_run (l := [("unicode/utf8.acceptRanges", Rows.laid_unicode_utf8_acceptRanges), ("unicode/utf8.first", Rows.laid_unicode_utf8_first)]) [2, 1] 8 (by kernel_rfl) (by kernel_rfl) (by kernel_rfl) (by kernel_rfl)).met

theorem witness_row (os : Os) {H : Type} (enc : TypeId × Value → H) :
    (OpenSpec.ofChange Rows.shardkeyFormsSpec).preRow enc Tryz.prog Tryz.f6 Rows.shardkeyFormsRow.domain false Rows.shardkeyFormsRow.laid ((laidWorld os).forCall (fun _ _ => 0) ⟨#[], #[.agg #[.slice none 0 0, .bool false], .agg #[.int .i64 0, .int .i64 0, .string ⟨#[]⟩, .slice none 0 0, .slice none 0 0]], []⟩).memory #[.agg #[.slice none 0 0, .bool false], .agg #[.int .i64 0, .int .i64 0, .string ⟨#[]⟩, .slice none 0 0, .slice none 0 0]] := by
  have hw : (DataW.whole enc Tryz.prog ((laidWorld os).forCall (fun _ _ => 0) ⟨#[], #[.agg #[.slice none 0 0, .bool false], .agg #[.int .i64 0, .int .i64 0, .string ⟨#[]⟩, .slice none 0 0, .slice none 0 0]], []⟩).memory Tryz.f6.params.toList (OpenSpec.ofChange Rows.shardkeyFormsSpec).vars false (#[.agg #[.slice none 0 0, .bool false], .agg #[.int .i64 0, .int .i64 0, .string ⟨#[]⟩, .slice none 0 0, .slice none 0 0]] : Array Value).toList 8).map (fun x => (x.1, x.2.1)) =
      some ([.agg [.nil, .lit (.bool false)], .agg [.lit (.int .i64 0), .lit (.int .i64 0), .lit (.string []), .nil, .nil]], []) := by kernel_rfl
  obtain ⟨⟨x1, x2, x3⟩, hx, hx1⟩ := Option.map_eq_some_iff.1 hw
  simp only [Prod.mk.injEq] at hx1
  obtain ⟨rfl, rfl⟩ := hx1
  exact OpenSpec.preRow_of_cond 8 hx (by kernel_rfl) (fun k hk => by cases hk) (by kernel_rfl) (laid_met os _)

set_option maxRecDepth 100000 in
set_option maxHeartbeats 2000000 in
theorem lifted (os : Os) (started : os.Started) (H : Type) (enc : TypeId × Value → H) (F0 : Stop.Interp) :
    ReturnsInHanded {} Tryz.checked os 6 .any ((OpenSpec.ofChange Rows.shardkeyFormsSpec).preRow enc Tryz.prog Tryz.f6 Rows.shardkeyFormsRow.domain false Rows.shardkeyFormsRow.laid) (((OpenSpec.ofChange Rows.shardkeyFormsSpec).at F0).post enc Tryz.prog Tryz.f6 false true false false) := by
  refine returnsInHanded_of_row (C := Tryz.checked) (s := OpenSpec.ofChange Rows.shardkeyFormsSpec) own started (by kernel_rfl) Tryz.func6
    (witness_row_atRef (enc := enc) (C := Tryz.checked) false (laidWorld os) #[.agg #[.slice none 0 0, .bool false], .agg #[.int .i64 0, .int .i64 0, .string ⟨#[]⟩, .slice none 0 0, .slice none 0 0]] rfl (by kernel_rfl) (by kernel_rfl) (by kernel_rfl) (witness_row os enc)) ?_
  intro W base args ds gs before hval0 hW hq1 hq2 hwt hL hq5 hq6
  have hval : ∀ (j : Nat) t v, Tryz.f6.params[j]? = some t → args[j]? = some v → Value.okWide Tryz.prog W .any base t v := hval0
  have hW' := hW
  obtain ⟨p, q, hA0, hV, rfl, hfz, hnd⟩ := hW
  have hA : DataW.TrodAll enc Tryz.prog W 0 (fun _ => true) true Tryz.f6.params.toList args.toList ds p := hA0
  rw [Tryz.params6] at hA hval hwt
  obtain ⟨v0, vs0, d0, ds0, p0, q0, hargs, rfl, rfl, h0, r0⟩ := trodAll_cons hA
  obtain ⟨v1, vs1, d1, ds1, p1, q1, rfl, rfl, rfl, h1, r1⟩ := trodAll_cons r0
  obtain ⟨rfl, rfl, rfl⟩ := trodAll_nil r1
  obtain rfl : args = #[v0, v1] := by cases args; simp_all
  obtain ⟨rfl, rfl⟩ := trodVars_none hV
  obtain ⟨hlt0, hwt0⟩ := light_each hwt
  obtain ⟨hlt1, hwt1⟩ := light_each hwt0
  have trd0 := h0
  have lt0 : ∀ x ∈ p0, x.block < W.heap.size := by obtain ⟨m, hm⟩ := trd0; exact DataW.trod_lt m _ _ _ hm
  obtain ⟨A0, n0, k0, ha0, ks0, rfl, o0⟩ := open_key (hval 0 24 v0 rfl rfl) h0 hlt0
  have trd1 := h1
  have lt1 : ∀ x ∈ p1, x.block < W.heap.size := by obtain ⟨m, hm⟩ := trd1; exact DataW.trod_lt m _ _ _ hm
  obtain ⟨c1, t1, rfl, o1⟩ := open_value (hval 1 46 v1 rfl rfl) h1 hlt1
  clear hA0 hval0
  have htab : Tabs W := by
    have r1 := Lib.laidMet.reads hL (.tail _ (.head _))
    have r2 := Lib.laidMet.reads hL (.head _)
    rw [first_eq] at r1
    rw [accept_eq] at r2
    exact utf8Tabs_of_readsT (U8Types.of196 laysValid) ⟨by kernel_rfl, by kernel_rfl, by kernel_rfl, by kernel_rfl, by kernel_rfl, by kernel_rfl, by kernel_rfl⟩ r1 r2
  refine (shardkeyForms_walk ks0 ha0 A0 n0 k0 t1 c1 W htab (maxL_of hq5) o0 o1).mono fun e W' ⟨he, bel⟩ => ?_
  subst he
  exact ⟨_, rfl, _, _, _, [], _, [], hW', trodAll_mk1 (shut_bool Tryz.underlying4 _), (trodAll_cons_mk (Below.trod laidOut (by kernel_rfl) (of_decide_eq_true (by kernel_rfl)) trd0 bel lt0) (trodAll_cons_mk (Below.trod laidOut (by kernel_rfl) (of_decide_eq_true (by kernel_rfl)) trd1 bel lt1) trodAll_mk0)), rfl, bel.frame _, fun h => by cases h⟩

theorem over : Rows.ShardkeyFormsSaid :=
  OpenClaim.holds_of_cond 6 Tryz.f6 rfl rfl rfl rfl rfl rfl rfl ⟨rfl, rfl, rfl, rfl, rfl⟩ rfl rfl rfl rfl rfl (by kernel_rfl) Tryz.func6 (by kernel_rfl)
    (of_decide_eq_true (by kernel_rfl)) (by unfold Func.isWrapper; first | (rw [if_pos (by decide +kernel)]; kernel_rfl) | (rw [if_neg (by decide +kernel)]; exact ⟨rfl, rfl⟩))
    (fun os started H enc _ F0 => by rw [OpenClaim.pre_eq_preRow]; exact lifted os started H enc F0)

theorem proved : Rows.ShardkeyFormsCardSaid :=
  Claim7.holds_tied_plain_at .later [] [.data, .pinned] true (true, "5eb92f9e9b36b8eadbebde4cf3d0f215bcad4147f9c0798263e8c8085d50e81b") false
    over (fun _ h => by cases h) (by kernel_rfl) (fun _ h => by cases h) shardkeyForms_row_tie rfl ⟨rfl, rfl⟩ (by kernel_rfl) rfl
    (fun f fn hf hfn => by
      obtain rfl : f = 6 := Option.some.inj ((show Tryz.prog.funcNamed "docstore/docstorelaw48.ShardkeyForms" = some 6 by kernel_rfl).symm.trans hf) |>.symm
      obtain rfl : fn = Tryz.f6 := (Option.some.inj (Tryz.func6.symm.trans hfn)).symm
      exact ⟨by kernel_rfl, fun j t ht => by
        rw [Tryz.params6] at ht
        have h3 : t = 24 ∨ t = 46 := by
          rcases j with _ | j
          · exact .inl (by simpa using ht.symm)
          rcases j with _ | j
          · exact .inr (by simpa using ht.symm)
          · simp at ht
        rcases h3 with rfl | rfl
        · exact (show Tryz.prog.wantsStandIn 24 = false by kernel_rfl)
        · exact (show Tryz.prog.wantsStandIn 46 = false by kernel_rfl)⟩)
    (by kernel_rfl)
#print axioms proved
end Go.Proofs.YtlmmgjgkmbmgpaaGreatDoor.shardkeyForms

