/- Parts of the proof, joined: RoInts, RoSort, RoSmall, Kit6, ChBaseB, RoTargets, ShEncodesWalk. -/
import Derived.Test.YtblepmmibhphhaaGreatDoorB1
import Derived.Test.YtblepmmibhphhaaGreatDoorB10
import Derived.Test.YtblepmmibhphhaaGreatDoorB6
import Derived.Test.YtblepmmibhphhaaGreatDoorB18
import Derived.Test.YtblepmmibhphhaaGreatDoorB13
import Derived.Deep.RegionHeld3
import Derived.Laws.IdiomCopy
import Derived.Lib.SliceRun
import Derived.Shelf.Spec.SlicesInsertGrow
/- Sorting, compacting and comparing lists of one or two ascending numbers. -/
namespace Go.Proofs.YtblepmmibhphhaaGreatDoor
open Go.RowKit

def recN (z : Int) : List Value := [.int .i64 z]
theorem recN_length (z : Int) : (recN z).length = 1 := rfl
theorem recN_one (z : Int) : ∀ u ∈ recN z, u.oneCell' = true := by simp [recN, Value.oneCell']
theorem info_int : (Tryz.prog.info? 3).map (fun i => (i.zero, i.size, i.bytes)) = some (some (.int .i64 0), 1, 8) := by kernel_rfl
theorem SR.atN {w : World} {A : Option Addr} {n c : Nat} {l : List Int} (h : SR 1 recN w A n c l) {i : Nat} (hi : i < n) : ∃ b off x, A = some ⟨b, off, none⟩ ∧ b < w.heap.size ∧ l[i]? = some x ∧ w.cell? ⟨b, off + i, none⟩ = some (.int .i64 x) := by
  obtain ⟨b, off, e, hb, hc⟩ := h.el (by omega)
  have hl : i < l.length := by have := h.ln; omega
  have h1 := List.getElem?_eq_getElem hl
  exact ⟨b, off, l[i], e, hb, h1, by simpa using hc i _ h1 0 _ rfl⟩

set_option maxRecDepth 100000 in
set_option maxHeartbeats 1000000 in
/-- equal lists of numbers are equal -/
theorem equalN_any (l : List Int) (A B : Option Addr) (n c d : Nat) (w : World) (h : SR 1 recN w A n c l) (h' : SR 1 recN w B n d l) (hn : n ≤ 100) :
    Calls Tryz.prog 57 #[.slice A n c, .slice B n d] w fun e w' => e = .returned (.bool true) ∧ Below w.heap.size w w' := by
  have H := Lib.hid h
  have H' := Lib.hid h'
  clear h h'
  go_enter Tryz.func57, Tryz.ntmps57
  go_upto_region 4 with fail
  go_loopw [5, 13] (fun _ v wr => ∃ i : Nat, i ≤ n ∧ v = .int .i64 i ∧ Below w.heap.size w wr) (fun _ v _ => n - (intOf v).toNat)
  case atStart => exact ⟨0, Nat.zero_le _, rfl, Below.refl _ _⟩
  case round =>
    obtain ⟨i, hi, rfl, hbel⟩ := hrel
    have HB := Lib.hid hbel
    by_cases hlt : i < n
    · obtain ⟨b, off, x, rfl, hb, hx, e0⟩ := H.out.atN hlt
      obtain ⟨b', off', y, rfl, hb', hy, e1⟩ := H'.out.atN hlt
      obtain rfl : x = y := Option.some.inj (hx.symm.trans hy)
      have g0 : ∀ q : BW wr, q.val.cell? ⟨b, off + i, none⟩ = some (.int .i64 x) := fun q => q.cell ((hbel.cell (p := ⟨b, off + i, none⟩) hb).trans e0)
      have g1 : ∀ q : BW wr, q.val.cell? ⟨b', off' + i, none⟩ = some (.int .i64 x) := fun q => q.cell ((hbel.cell (p := ⟨b', off' + i, none⟩) hb').trans e1)
      have i0' : (0 : Int) ≤ (i : Int) := by omega
      have i1' : (i : Int) < (n : Int) := by omega
      have xx : (x != x) = false := by simp
      clear hx hy e0 e1 hbel
      go_upto_region 6 with fail
      refine wp_region_bw (by kernel_rfl) (by kernel_rfl) ?_
      repeat (go_big_quiet_step (fail))
      refine wpQuiet_nil ?_
      rintro _ ⟨kw, rfl⟩
      have CE := Lib.hid (HB.out.step' kw.below)
      clear g0 g1 HB
      generalize kw.val = w3 at *
      go_wp2_with fail
      go_roundw
      case rel => exact ⟨i + 1, hlt, by go_num, CE.out⟩
      case measure => simp [intOf]; omega
    · obtain rfl : i = n := by omega
      clear hbel
      go_wp2_with fail
      go_ret
      exact ⟨rfl, HB.out⟩

set_option maxRecDepth 100000 in
set_option maxHeartbeats 1000000 in
theorem isortN1_any (A : Option Addr) (c : Nat) (w : World) :
    Calls Tryz.prog 147 #[.slice A 1 c, .int .i64 0, .int .i64 1] w fun e w' => e = .returned (.tuple #[]) ∧ Below w.heap.size w w' := by
  go_enter Tryz.func147, Tryz.ntmps147
  go_wp2_with fail
  go_loopw [6, 7] (fun v8 _ wr => v8 = .int .i64 1 ∧ wr = w) (fun _ _ _ => 0)
  case atStart => exact ⟨rfl, rfl⟩
  case round =>
    obtain ⟨rfl, rfl⟩ := hrel
    go_wp2_with fail
    go_end0
    exact ⟨rfl, Below.refl _ _⟩
set_option maxRecDepth 100000 in
set_option maxHeartbeats 1000000 in
theorem nan_any (x : Int) (w : World) : Calls Tryz.prog 164 #[.int .i64 x] w fun e w' => e = .returned (.bool false) ∧ Below w.heap.size w w' := by
  have xx : (x != x) = false := by simp
  go_enter Tryz.func164, Tryz.ntmps164
  go_wp2_with fail
  go_ret
  exact ⟨rfl, Below.refl _ _⟩
set_option maxRecDepth 100000 in
set_option maxHeartbeats 1000000 in
theorem less_no (x y : Int) (w : World) (h : ¬ x < y) : Calls Tryz.prog 153 #[.int .i64 x, .int .i64 y] w fun e w' => e = .returned (.bool false) ∧ Below w.heap.size w w' := by
  have HF : Hid (decide (x < y) = false) := decide_eq_false h
  clear h
  go_enter Tryz.func153, Tryz.ntmps153
  go_wp2_with fail
  refine (nan_any x _).mono ?_
  rintro e w1 ⟨rfl, hb⟩
  have CE := Lib.hid hb
  clear hb
  go_wp2_with fail
  go_ret
  refine ⟨?_, CE.out⟩
  show _ = Ending.returned (Value.bool false)
  rw [← HF.out]
  rfl
set_option maxRecDepth 100000 in
set_option maxHeartbeats 4000000 in
theorem isortN2_any (x y : Int) (A : Option Addr) (c : Nat) (w : World) (h : SR 1 recN w A 2 c [x, y]) (hxy : x < y) :
    Calls Tryz.prog 147 #[.slice A 2 c, .int .i64 0, .int .i64 2] w fun e w' => e = .returned (.tuple #[]) ∧ Below w.heap.size w w' := by
  obtain ⟨b, off, z, rfl, hb, hz, e0⟩ := h.atN (i := 0) (by omega)
  obtain rfl : x = z := by simpa using hz
  obtain ⟨b', off', z', he, hb', hz', e1⟩ := h.atN (i := 1) (by omega)
  cases he
  obtain rfl : y = z' := by simpa using hz'
  have HL := Lib.hid fun (wr : World) => less_no y x wr (by omega)
  rw [Nat.add_zero] at e0
  clear hz hz' h hxy
  go_enter Tryz.func147, Tryz.ntmps147
  go_wp2_with fail
  go_loopw [6, 7] (fun v6 _ wr => ∃ i : Nat, 1 ≤ i ∧ i ≤ 2 ∧ v6 = .int .i64 i ∧ Below w.heap.size w wr) (fun v6 _ _ => 2 - (intOf v6).toNat)
  case atStart => exact ⟨1, by omega, by omega, rfl, Below.refl _ _⟩
  case round =>
    obtain ⟨i, h1, h2, rfl, hbel⟩ := hrel
    have HB := Lib.hid hbel
    by_cases hi : i = 1
    · subst hi
      have g0 : ∀ q : BW wr, q.val.cell? ⟨b, off, none⟩ = some (.int .i64 x) := fun q => q.cell ((hbel.cell (p := ⟨b, off, none⟩) hb).trans e0)
      have g1 : ∀ q : BW wr, q.val.cell? ⟨b, off + 1, none⟩ = some (.int .i64 y) := fun q => q.cell ((hbel.cell (p := ⟨b, off + 1, none⟩) hb).trans e1)
      have K1 : Hid (∀ q : BW wr, Calls Tryz.prog 153 #[.int .i64 y, .int .i64 x] q.val fun e w'' => e = .returned (.bool false) ∧ ∃ q : BW wr, w'' = q.val) := fun q => Calls.bw (HL.out q.val)
      clear hbel h1 h2
      go_wp2_with fail
      go_loopw [7] (fun v7 wq => v7 = .int .i64 1 ∧ wq = wr) (fun _ _ => 0)
      case atStart => exact ⟨rfl, rfl⟩
      case round =>
        obtain ⟨rfl, rfl⟩ := hrel
        go_upto_region 4 with fail
        refine wp_region_bw (by kernel_rfl) (by kernel_rfl) ?_
        repeat (go_big_quiet_step (with_reducible exact K1.out _))
        refine wpQuiet_nil ?_
        rintro _ ⟨kw, rfl⟩
        have CE := Lib.hid (HB.out.step' kw.below)
        clear g0 g1 K1
        generalize kw.val = w3 at *
        go_wp2_with fail
        go_roundw
        case rel => exact ⟨2, by omega, by omega, rfl, CE.out⟩
        case measure => simp [intOf]
    · obtain rfl : i = 2 := by omega
      clear hbel
      go_wp2_with fail
      go_end0
      exact ⟨rfl, HB.out⟩

end Go.Proofs.YtblepmmibhphhaaGreatDoor


/- Sorting and compacting one or two ascending numbers. -/
namespace Go.Proofs.YtblepmmibhphhaaGreatDoor
open Go.RowKit

set_option maxRecDepth 100000 in
set_option maxHeartbeats 4000000 in
theorem lenN64_1 (w : World) : Calls Tryz.prog 157 #[.int .u64 1] w fun e w' => (∃ z : Int, e = .returned (.int .i64 z)) ∧ Below w.heap.size w w' := by
  go_enter Tryz.func157, Tryz.ntmps157
  go_wp2_with fail
  go_ret
  exact ⟨⟨_, rfl⟩, Below.refl _ _⟩
set_option maxRecDepth 100000 in
set_option maxHeartbeats 4000000 in
theorem lenN64_2 (w : World) : Calls Tryz.prog 157 #[.int .u64 2] w fun e w' => (∃ z : Int, e = .returned (.int .i64 z)) ∧ Below w.heap.size w w' := by
  go_enter Tryz.func157, Tryz.ntmps157
  go_wp2_with fail
  go_ret
  exact ⟨⟨_, rfl⟩, Below.refl _ _⟩
set_option maxRecDepth 100000 in
set_option maxHeartbeats 4000000 in
theorem lenN_1 (w : World) : Calls Tryz.prog 131 #[.int .u64 1] w fun e w' => (∃ z : Int, e = .returned (.int .i64 z)) ∧ Below w.heap.size w w' := by
  go_enter Tryz.func131, Tryz.ntmps131
  go_wp2_with fail
  refine (lenN64_1 _).mono ?_
  rintro e w1 ⟨⟨z, rfl⟩, hb⟩
  have CE := Lib.hid hb
  clear hb
  go_wp2_with fail
  go_ret
  exact ⟨⟨_, rfl⟩, CE.out⟩
set_option maxRecDepth 100000 in
set_option maxHeartbeats 4000000 in
theorem lenN_2 (w : World) : Calls Tryz.prog 131 #[.int .u64 2] w fun e w' => (∃ z : Int, e = .returned (.int .i64 z)) ∧ Below w.heap.size w w' := by
  go_enter Tryz.func131, Tryz.ntmps131
  go_wp2_with fail
  refine (lenN64_2 _).mono ?_
  rintro e w1 ⟨⟨z, rfl⟩, hb⟩
  have CE := Lib.hid hb
  clear hb
  go_wp2_with fail
  go_ret
  exact ⟨⟨_, rfl⟩, CE.out⟩
set_option maxRecDepth 100000 in
set_option maxHeartbeats 4000000 in
theorem pdq1_any (A : Option Addr) (c : Nat) (z : Int) (w : World) :
    Calls Tryz.prog 130 #[.slice A 1 c, .int .i64 0, .int .i64 1, .int .i64 z] w fun e w' => e = .returned (.tuple #[]) ∧ Below w.heap.size w w' := by
  go_enter Tryz.func130, Tryz.ntmps130
  go_wp2_with fail
  go_loopw [1, 2] (fun v1 v2 wr => v1 = .int .i64 0 ∧ v2 = .int .i64 1 ∧ wr = w) (fun _ _ _ => 0)
  case atStart => exact ⟨rfl, rfl, rfl⟩
  case round =>
    obtain ⟨rfl, rfl, rfl⟩ := hrel
    go_wp2_with fail
    refine (isortN1_any A c _).mono ?_
    rintro e w1 ⟨rfl, hb⟩
    have CE := Lib.hid hb
    clear hb
    go_wp2_with fail
    refine bodyPost_ret (results_none rfl _ _ _) rfl ?_
    exact ⟨rfl, CE.out⟩
set_option maxRecDepth 100000 in
set_option maxHeartbeats 4000000 in
theorem pdq2_any (x y : Int) (A : Option Addr) (c : Nat) (z : Int) (w : World) (h : SR 1 recN w A 2 c [x, y]) (hxy : x < y) :
    Calls Tryz.prog 130 #[.slice A 2 c, .int .i64 0, .int .i64 2, .int .i64 z] w fun e w' => e = .returned (.tuple #[]) ∧ Below w.heap.size w w' := by
  have H := Lib.hid (isortN2_any x y A c w h hxy)
  clear h hxy
  go_enter Tryz.func130, Tryz.ntmps130
  go_wp2_with fail
  go_loopw [1, 2] (fun v1 v2 wr => v1 = .int .i64 0 ∧ v2 = .int .i64 2 ∧ wr = w) (fun _ _ _ => 0)
  case atStart => exact ⟨rfl, rfl, rfl⟩
  case round =>
    obtain ⟨rfl, rfl, rfl⟩ := hrel
    go_wp2_with fail
    refine H.out.mono ?_
    rintro e w1 ⟨rfl, hb⟩
    have CE := Lib.hid hb
    clear hb
    go_wp2_with fail
    refine bodyPost_ret (results_none rfl _ _ _) rfl ?_
    exact ⟨rfl, CE.out⟩
set_option maxRecDepth 100000 in
set_option maxHeartbeats 4000000 in
theorem sortN1_any (A : Option Addr) (c : Nat) (w : World) :
    Calls Tryz.prog 91 #[.slice A 1 c] w fun e w' => e = .returned (.tuple #[]) ∧ Below w.heap.size w w' := by
  go_enter Tryz.func91, Tryz.ntmps91
  go_wp2_with fail
  refine (lenN_1 _).mono ?_
  rintro e w1 ⟨⟨z, rfl⟩, hb⟩
  have CE := Lib.hid hb
  clear hb
  go_wp2_with fail
  refine (pdq1_any A c z _).mono ?_
  rintro e w2 ⟨rfl, hb⟩
  have CE2 := Lib.hid (CE.out.step' hb)
  clear hb
  go_wp2_with fail
  go_end0
  exact ⟨rfl, CE2.out⟩
set_option maxRecDepth 100000 in
set_option maxHeartbeats 4000000 in
theorem sortN2_any (x y : Int) (A : Option Addr) (c : Nat) (w : World) (h : SR 1 recN w A 2 c [x, y]) (hxy : x < y) :
    Calls Tryz.prog 91 #[.slice A 2 c] w fun e w' => e = .returned (.tuple #[]) ∧ Below w.heap.size w w' := by
  have H := Lib.hid h
  have HX := Lib.hid hxy
  clear h hxy
  go_enter Tryz.func91, Tryz.ntmps91
  go_wp2_with fail
  refine (lenN_2 _).mono ?_
  rintro e w1 ⟨⟨z, rfl⟩, hb⟩
  have CE := Lib.hid hb
  have H1 := Lib.hid (H.out.step hb)
  clear hb
  go_wp2_with fail
  refine (pdq2_any x y A c z _ H1.out HX.out).mono ?_
  rintro e w2 ⟨rfl, hb⟩
  have CE2 := Lib.hid (CE.out.step' hb)
  clear hb
  go_wp2_with fail
  go_end0
  exact ⟨rfl, CE2.out⟩
set_option maxRecDepth 100000 in
set_option maxHeartbeats 4000000 in
theorem compactN1_any (A : Option Addr) (c : Nat) (w : World) :
    Calls Tryz.prog 92 #[.slice A 1 c] w fun e w' => e = .returned (.slice A 1 c) ∧ Below w.heap.size w w' := by
  go_enter Tryz.func92, Tryz.ntmps92
  go_wp2_with fail
  go_ret
  exact ⟨rfl, Below.refl _ _⟩
set_option maxRecDepth 100000 in
set_option maxHeartbeats 4000000 in
theorem compactN2_any (x y : Int) (A : Option Addr) (c : Nat) (w : World) (h : SR 1 recN w A 2 c [x, y]) (hxy : x < y) :
    Calls Tryz.prog 92 #[.slice A 2 c] w fun e w' => e = .returned (.slice A 2 c) ∧ Below w.heap.size w w' := by
  obtain ⟨b, off, z, rfl, hb, hz, e0⟩ := h.atN (i := 0) (by omega)
  obtain rfl : x = z := by simpa using hz
  obtain ⟨b', off', z', he, hb', hz', e1⟩ := h.atN (i := 1) (by omega)
  cases he
  obtain rfl : y = z' := by simpa using hz'
  rw [Nat.add_zero] at e0
  have hne : (y == x) = false := by simp; omega
  have g0 : ∀ q : BW w, q.val.cell? ⟨b, off, none⟩ = some (.int .i64 x) := fun q => q.cell e0
  have g1 : ∀ q : BW w, q.val.cell? ⟨b, off + 1, none⟩ = some (.int .i64 y) := fun q => q.cell e1
  clear hz hz' h hxy e0 e1
  go_enter Tryz.func92, Tryz.ntmps92
  go_upto_region 4 with fail
  go_loopw [3] (fun v wr => (v = .int .i64 1 ∧ wr = w) ∨ (v = .int .i64 2 ∧ Below w.heap.size w wr)) (fun v _ => 2 - (intOf v).toNat)
  case atStart => exact .inl ⟨rfl, rfl⟩
  case round =>
    rcases hrel with ⟨rfl, rfl⟩ | ⟨rfl, hbel⟩
    · go_upto_region 6 with fail
      refine wp_region_bw (by kernel_rfl) (by kernel_rfl) ?_
      repeat (go_big_quiet_step (fail))
      refine wpQuiet_nil ?_
      rintro _ ⟨kw, rfl⟩
      have CE := Lib.hid kw.below
      clear g0 g1
      generalize kw.val = w3 at *
      go_wp2_with fail
      go_roundw
      case rel => exact .inr ⟨rfl, CE.out⟩
      case measure => simp [intOf]
    · have HB := Lib.hid hbel
      clear hbel g0 g1
      go_wp2_with fail
      go_ret
      exact ⟨rfl, HB.out⟩

end Go.Proofs.YtblepmmibhphhaaGreatDoor


/- Small contracts for the router's first check: meet, the search in one range, sorting and compacting one or two numbers, comparing lists of numbers. -/
namespace Go.Proofs.YtblepmmibhphhaaGreatDoor
open Go.RowKit

def meetB (c : Ch) (p : BB) : Bool := (p.2.toList == [] || Op.bytesLess c.lo.toList p.2.toList) && (c.hi.toList == [] || Op.bytesLess p.1.toList c.hi.toList)
abbrev agg2 (p : BB) : Value := .agg #[.string p.1, .string p.2]
set_option maxRecDepth 100000 in
set_option maxHeartbeats 1000000 in
theorem meet_any (c : Ch) (p : BB) (w : World) : Calls Tryz.prog 90 #[aggC c, agg2 p] w fun e w' => e = .returned (.bool (meetB c p)) ∧ Below w.heap.size w w' := by
  have BE : Hid (Below w.heap.size w ((w.alloc (Obj.cells (recC c).toArray 58)).alloc (Obj.cells (rec2 p).toArray 82))) := ((Below.refl _ _).alloc (Nat.le_refl _) _).alloc (by simp) _
  cases h1 : (p.2.toList == [])
  · cases h2 : Op.bytesLess c.lo.toList p.2.toList
    · have HV : Hid (meetB c p = false) := by unfold Hid meetB; rw [h1, h2]; rfl
      go_enter Tryz.func90, Tryz.ntmps90
      go_wp2_with fail
      go_ret
      exact ⟨by rw [HV.out]; rfl, BE.out⟩
    · cases h3 : (c.hi.toList == [])
      · have HV : Hid (meetB c p = Op.bytesLess p.1.toList c.hi.toList) := by unfold Hid meetB; rw [h1, h2, h3]; rfl
        go_enter Tryz.func90, Tryz.ntmps90
        go_wp2_with fail
        go_ret
        exact ⟨by rw [HV.out]; rfl, BE.out⟩
      · have HV : Hid (meetB c p = true) := by unfold Hid meetB; rw [h1, h2, h3]; rfl
        go_enter Tryz.func90, Tryz.ntmps90
        go_wp2_with fail
        go_ret
        exact ⟨by rw [HV.out]; rfl, BE.out⟩
  · cases h3 : (c.hi.toList == [])
    · have HV : Hid (meetB c p = Op.bytesLess p.1.toList c.hi.toList) := by unfold Hid meetB; rw [h1, h3]; rfl
      go_enter Tryz.func90, Tryz.ntmps90
      go_wp2_with fail
      go_ret
      exact ⟨by rw [HV.out]; rfl, BE.out⟩
    · have HV : Hid (meetB c p = true) := by unfold Hid meetB; rw [h1, h3]; rfl
      go_enter Tryz.func90, Tryz.ntmps90
      go_wp2_with fail
      go_ret
      exact ⟨by rw [HV.out]; rfl, BE.out⟩

set_option maxRecDepth 100000 in
set_option maxHeartbeats 1000000 in
theorem tgt1_any (c : Ch) (p : BB) (m : Nat) (w : World) (h : Blk w m 58 (recC c).toArray) :
    Calls Tryz.prog 89 #[agg2 p, .pointer (some ⟨m, 0, none⟩)] w fun e w' => e = .returned (.bool (meetB c p)) ∧ Below w.heap.size w w' := by
  have hm := h.lt
  have e0 : w.cell? ⟨m, 0, none⟩ = some (.string c.lo) := h.cell 0
  have e1 : w.cell? ⟨m, 1, none⟩ = some (.string c.hi) := h.cell 1
  have e2 : w.cell? ⟨m, 2, none⟩ = some (.int .i64 c.sh) := h.cell 2
  have e3 : w.cell? ⟨m, 3, none⟩ = some (.int .i64 c.ver) := h.cell 3
  have e4 : w.cell? ⟨m, 4, none⟩ = some (.bool c.ju) := h.cell 4
  have BE : Hid (Below w.heap.size w (w.alloc (Obj.cells (rec2 p).toArray 82))) := (Below.refl _ _).alloc (Nat.le_refl _) _
  go_enter Tryz.func89, Tryz.ntmps89
  go_wp2_with fail
  refine (meet_any c p _).mono ?_
  rintro e w1 ⟨rfl, hb⟩
  have CE := Lib.hid (BE.out.step' hb)
  clear hb BE
  go_wp2_with fail
  go_ret
  exact ⟨rfl, CE.out⟩

set_option maxRecDepth 100000 in
set_option maxHeartbeats 1000000 in
theorem indexR1_any (c : Ch) (p : BB) (m : Nat) (A : Option Addr) (cc : Nat) (w : World) (h : Blk w m 58 (recC c).toArray) (hr : SR 2 rec2 w A 1 cc [p]) :
    Calls Tryz.prog 129 #[.slice A 1 cc, .func (.func 89) #[] #[.pointer (some ⟨m, 0, none⟩)]] w fun e w' => e = .returned (.int .i64 (if meetB c p then 0 else -1)) ∧ Below w.heap.size w w' := by
  obtain ⟨b, off, x, rfl, hb, hx, e0, e1⟩ := hr.at22 (i := 0) (by omega)
  obtain rfl : p = x := by simpa using hx
  rw [Nat.zero_mul, Nat.add_zero] at e0 e1
  have H := Lib.hid h
  have hbw := hb
  obtain ⟨V, hV⟩ : ∃ V : Int, V = (if meetB c p then 0 else -1) := ⟨_, rfl⟩
  rw [← hV]
  have HVV := Lib.hid hV
  clear hx h hr hV
  go_enter Tryz.func129, Tryz.ntmps129
  go_upto_region 2 with fail
  go_loopw [4, 5, 8] (fun _ _ v wr => ∃ i : Nat, i ≤ 1 ∧ v = .int .i64 i ∧ Below w.heap.size w wr ∧ (i = 1 → meetB c p = false)) (fun _ _ v _ => 1 - (intOf v).toNat)
  case atStart => exact ⟨0, by omega, rfl, Below.refl _ _, fun h => by omega⟩
  case round =>
    obtain ⟨i, hi, rfl, hbel, hf⟩ := hrel
    have HB := Lib.hid hbel
    rcases Nat.eq_zero_or_pos i with h0 | h0
    · subst h0
      replace e0 := (hbel.cell (p := ⟨b, off, none⟩) hbw).trans e0
      replace e1 := (hbel.cell (p := ⟨b, off + 1, none⟩) hbw).trans e1
      have HM := Lib.hid (tgt1_any c p m wr (H.out.step hbel))
      clear hf hbel
      go_wp2_with fail
      refine HM.out.mono ?_
      rintro e w1 ⟨rfl, hb1⟩
      have CE := Lib.hid (HB.out.step' hb1)
      clear hb1 HB HM e0 e1
      cases hq : meetB c p
      · go_wp2_with fail
        go_roundw
        case rel => exact ⟨1, by omega, rfl, CE.out, fun _ => hq⟩
        case measure => simp [intOf]
      · have HF : Hid ((if meetB c p then (0 : Int) else -1) = 0) := by rw [Hid, hq]; rfl
        go_wp2_with fail
        go_ret
        exact ⟨by rw [show V = 0 from HVV.out.trans HF.out]; rfl, CE.out⟩
    · obtain rfl : i = 1 := by omega
      have HF : Hid ((if meetB c p then (0 : Int) else -1) = -1) := by rw [Hid, hf rfl]; rfl
      clear hf hbel
      go_wp2_with fail
      go_ret
      exact ⟨by rw [show V = -1 from HVV.out.trans HF.out]; rfl, HB.out⟩
set_option maxRecDepth 100000 in
set_option maxHeartbeats 1000000 in
theorem containsR1_any (c : Ch) (p : BB) (m : Nat) (A : Option Addr) (cc : Nat) (w : World) (h : Blk w m 58 (recC c).toArray) (hr : SR 2 rec2 w A 1 cc [p]) :
    Calls Tryz.prog 88 #[.slice A 1 cc, .func (.func 89) #[] #[.pointer (some ⟨m, 0, none⟩)]] w fun e w' => e = .returned (.bool (meetB c p)) ∧ Below w.heap.size w w' := by
  have HI := Lib.hid (indexR1_any c p m A cc w h hr)
  clear h hr
  cases hq : meetB c p
  · rw [hq] at HI
    go_enter Tryz.func88, Tryz.ntmps88
    go_wp2_with fail
    refine HI.out.mono ?_
    rintro e w1 ⟨rfl, hb1⟩
    have CE := Lib.hid hb1
    clear hb1 HI
    go_wp2_with fail
    go_ret
    exact ⟨rfl, CE.out⟩
  · rw [hq] at HI
    go_enter Tryz.func88, Tryz.ntmps88
    go_wp2_with fail
    refine HI.out.mono ?_
    rintro e w1 ⟨rfl, hb1⟩
    have CE := Lib.hid hb1
    clear hb1 HI
    go_wp2_with fail
    go_ret
    exact ⟨rfl, CE.out⟩

end Go.Proofs.YtblepmmibhphhaaGreatDoor


/- Parts of rows; stores of many cells into a block. -/
namespace Go.Proofs.YtblepmmibhphhaaGreatDoor
open Go.RowKit

theorem flat_take {α : Type} {rec : α → List Value} {s : Nat} (hs : ∀ a, (rec a).length = s) : ∀ (xs : List α) (k : Nat), (flat rec xs).take (k * s) = flat rec (xs.take k) := by
  intro xs
  induction xs with
  | nil => intro k; simp [flat]
  | cons a l ih =>
    intro k
    cases k with
    | zero => simp [flat]
    | succ k =>
      have e : ∀ (y : α) (t : List α), flat rec (y :: t) = rec y ++ flat rec t := fun _ _ => rfl
      rw [List.take_succ_cons, e, e, ← ih k, show (k + 1) * s = (rec a).length + k * s by rw [hs, Nat.add_mul]; omega, List.take_length_add_append]
theorem flat_drop {α : Type} {rec : α → List Value} {s : Nat} (hs : ∀ a, (rec a).length = s) : ∀ (xs : List α) (k : Nat), (flat rec xs).drop (k * s) = flat rec (xs.drop k) := by
  intro xs
  induction xs with
  | nil => intro k; simp [flat]
  | cons a l ih =>
    intro k
    cases k with
    | zero => simp [flat]
    | succ k =>
      have e : ∀ (y : α) (t : List α), flat rec (y :: t) = rec y ++ flat rec t := fun _ _ => rfl
      rw [List.drop_succ_cons, e, ← ih k, show (k + 1) * s = (rec a).length + k * s by rw [hs, Nat.add_mul]; omega, List.drop_length_add_append]
theorem Reads.take {w : World} {B size n : Nat} {A : Option Addr} {xs : List Value} (h : Reads w B size A n xs) {k : Nat} (hk : k ≤ n) : Reads w B size A k (xs.take (k * size)) := by
  refine ⟨by rw [List.length_take, h.1]; exact Nat.min_eq_left (Nat.mul_le_mul_right _ hk), fun hn => ?_⟩
  obtain ⟨ad, rfl, hb, hc⟩ := h.2 (by omega)
  refine ⟨ad, rfl, hb, fun j u hu => hc j u ?_⟩
  rw [List.getElem?_take] at hu
  split at hu
  · exact hu
  · cases hu
theorem Blk.setCells {g : Nat} {t : TypeId} : ∀ (vs : List Value) {l : List Value} (o : Nat) {w : World}, Blk w g t l.toArray → Blk (w.setCells g o vs) g t (setList l o vs).toArray
  | [], _, _, _, h => h
  | v :: r, l, o, w, h => by
    have h1 := h.set_ o v
    rw [show l.toArray.setIfInBounds o v = (l.set o v).toArray by simp] at h1
    exact Blk.setCells r (o + 1) h1
theorem heap_setCells (g : Nat) : ∀ (vs : List Value) (o : Nat) (w : World) (b : Nat), b ≠ g → (w.setCells g o vs).heap[b]? = w.heap[b]?
  | [], _, _, _, _ => rfl
  | v :: r, o, w, b, h => by
    rw [World.setCells, heap_setCells g r (o + 1) _ b h]
    exact Below.heap_setCell w ⟨g, o, none⟩ v b h
theorem But.setCells {g : Nat} {w : World} : ∀ (vs : List Value) (o : Nat) {w1 : World}, But g w w1 → But g w (w1.setCells g o vs)
  | [], _, _, h => h
  | v :: r, o, _, h => But.setCells r (o + 1) (h.set (p := ⟨g, o, none⟩) rfl v)
/-- clear of a slice of one element -/
theorem run_clear_one {P : Program} (w : World) (t e ty : TypeId) (z : Value) (zs : List Value) (ht : P.underlying t = some (.slice e)) (hv : ∀ w, (zeroValue e).run P w = .ok z w) (hz : z.cells = zs.toArray) (h1 : ∀ v ∈ zs, v.oneCell' = true) (b o c : Nat)
    (hc : ∀ j, j < zs.length → (w.cell? ⟨b, o + j, none⟩).isSome = true) (hf : ∀ j, j < zs.length → w.frozen? ⟨b, o + j, none⟩ = false) :
    (Builtin.clear_ #[t] ty #[.slice (some ⟨b, o, none⟩) 1 c]).run P w = .ok (.tuple #[]) (w.setCells b o zs) := by
  have hzc : (Builtin.zeroCells z.cells 1).toList = zs := by
    rw [hz]
    apply List.ext_getElem
    · simp [Builtin.zeroCells]
    · intro i h1 h2
      simp [Builtin.zeroCells, Nat.mod_eq_of_lt h2, h2]
  have hst := run_storeCells_cells (P := P) b o zs 0 w (by simpa using hc) (by simpa using hf) h1
  simp only [Nat.add_zero] at hst
  simp [Builtin.clear_, run_underlying ht, hv, hzc, hst]

end Go.Proofs.YtblepmmibhphhaaGreatDoor


/- The contracts of slices.IndexFunc at chunks, of the functions that are handed to it, and of begins and Find. · The contracts of chunks.copied and chunks.changed. · The contract of chunks.changed. · The contracts of slices.Insert and slices.Delete at chunks. · The contract of slices.Delete at chunks: one chunk is taken out in place. · Routes in a variable, whose chunks lie in a row of the call's own. · The contract of chunks.Split. -/
namespace Go.Proofs.YtblepmmibhphhaaGreatDoor
open Go.RowKit

set_option maxRecDepth 100000 in
set_option maxHeartbeats 1000000 in
theorem indexC_any (f : FuncId) (m : Nat) (p : Ch → Bool) (l : List Ch) (A : Option Addr) (n c : Nat) (w : World) (h : CS w A n c l)
    (hent : ∀ args w, (callFunc f args).run Tryz.prog w = .ok (.enter f args) w)
    (hs : ∀ (x : Ch) (wr : World), Below w.heap.size w wr → Calls Tryz.prog f #[aggC x, .pointer (some ⟨m, 0, none⟩)] wr fun e w' => e = .returned (.bool (p x)) ∧ Below wr.heap.size wr w') :
    Calls Tryz.prog 93 #[.slice A n c, .func (.func f) #[] #[.pointer (some ⟨m, 0, none⟩)]] w fun e w' => e = .returned (.int .i64 (idxI p l)) ∧ Below w.heap.size w w' := by
  have hz : n ≤ 140737488355328 := by have := h.sz; unfold reach at this; omega
  have H := Lib.hid h
  have HS := Lib.hid hs
  clear h hs
  go_enter Tryz.func93, Tryz.ntmps93
  go_wp2_with fail
  go_loopw [8] (fun v wr => ∃ i : Nat, i ≤ n ∧ v = .int .i64 i ∧ idxI p l = idxFrom p (l.drop i) i ∧ Below w.heap.size w wr) (fun v _ => n - (intOf v).toNat)
  case atStart => exact ⟨0, Nat.zero_le _, rfl, rfl, Below.refl _ _⟩
  case round =>
    obtain ⟨i, hi, rfl, ha, hbel⟩ := hrel
    have HA := Lib.hid ha
    have HB := Lib.hid hbel
    clear ha
    by_cases hlt : i < n
    · obtain ⟨b, off, x, hA, hb, hx, e0, e1, e2, e3, e4⟩ := H.out.sr.at5 hlt
      subst hA
      have HX := Lib.hid (idxFrom_at (p := p) hx)
      have g0 := (hbel.cell (p := ⟨b, off + i * 5, none⟩) hb).trans e0
      have g1 := (hbel.cell (p := ⟨b, off + i * 5 + 1, none⟩) hb).trans e1
      have g2 := (hbel.cell (p := ⟨b, off + i * 5 + 2, none⟩) hb).trans e2
      have g3 := (hbel.cell (p := ⟨b, off + i * 5 + 3, none⟩) hb).trans e3
      have g4 := (hbel.cell (p := ⟨b, off + i * 5 + 4, none⟩) hb).trans e4
      clear hx e0 e1 e2 e3 e4 hbel
      go_wp2_with fail
      refine (HS.out x _ HB.out).mono ?_
      rintro e w1 ⟨rfl, hb1⟩
      have HB1 := Lib.hid (HB.out.step' hb1)
      clear hb1 g0 g1 g2 g3 g4
      cases hq : p x
      · have HF : Hid (idxI p l = idxFrom p (l.drop (i + 1)) (i + 1)) := by rw [Hid, HA.out, HX.out, hq]; rfl
        go_wp2_with fail
        go_roundw
        case rel => exact ⟨i + 1, by omega, by go_num, HF.out, HB1.out⟩
        case measure => simp [intOf]; omega
      · have HF : Hid (idxI p l = (i : Int)) := by rw [Hid, HA.out, HX.out, hq]; rfl
        go_wp2_with fail
        go_ret
        exact ⟨by rw [HF.out]; rfl, HB1.out⟩
    · have HF : Hid (idxI p l = -1) := by rw [Hid, HA.out]; exact idxFrom_end (by have := H.out.ln; omega)
      clear hbel
      go_wp2_with fail
      go_ret
      exact ⟨by rw [HF.out]; rfl, HB.out⟩

set_option maxHeartbeats 1000000 in
theorem find1_any (x : Ch) (m : Nat) (key : ByteArray) (w : World) (h : w.cell? ⟨m, 0, none⟩ = some (.string key)) :
    Calls Tryz.prog 94 #[aggC x, .pointer (some ⟨m, 0, none⟩)] w fun e w' => e = .returned (.bool (inB key x)) ∧ Below w.heap.size w w' := by
  have hm := World.block_lt_of_cell? w _ h
  cases h1 : Op.bytesLess key.toList x.lo.toList
  · cases h2 : (x.hi.toList == [])
    · have HV : Hid (inB key x = Op.bytesLess key.toList x.hi.toList) := by unfold Hid inB; rw [h1, h2]; rfl
      go_enter Tryz.func94, Tryz.ntmps94
      go_wp2_with fail
      go_ret
      exact ⟨by rw [HV.out]; rfl, (Below.refl _ _).alloc (Nat.le_refl _) _⟩
    · have HV : Hid (inB key x = true) := by unfold Hid inB; rw [h1, h2]; rfl
      go_enter Tryz.func94, Tryz.ntmps94
      go_wp2_with fail
      go_ret
      exact ⟨by rw [HV.out]; rfl, (Below.refl _ _).alloc (Nat.le_refl _) _⟩
  · have HV : Hid (inB key x = false) := by unfold Hid inB; rw [h1]; rfl
    go_enter Tryz.func94, Tryz.ntmps94
    go_wp2_with fail
    go_ret
    exact ⟨by rw [HV.out]; rfl, (Below.refl _ _).alloc (Nat.le_refl _) _⟩

set_option maxRecDepth 100000 in
theorem cfind_any (R : Ro) (a : RA) (key : ByteArray) (w : World) (h : RR w a R) :
    Calls Tryz.prog 58 #[rval a R, .string key] w fun e w' => e = .returned (.int .i64 (idxI (inB key) R.cs)) ∧ Below w.heap.size w w' := by
  have HA2 := Lib.hid (((Below.refl w.heap.size w).alloc (Nat.le_refl _) (Obj.cells (rarr a R) 45)).alloc (by simp) (Obj.cells #[.string key] 9))
  have HB : Hid (Blk ((w.alloc (Obj.cells (rarr a R) 45)).alloc (Obj.cells #[.string key] 9)) (w.heap.size + 1) 9 #[.string key]) := Blk.new_at (by simp)
  have H := Lib.hid h
  clear h
  go_enter Tryz.func58, Tryz.ntmps58
  go_wp2_with fail
  refine (indexC_any _ _ (inB key) R.cs _ _ _ _ (H.out.cs.step HA2.out) (fun _ _ => rfl) fun x wr hb => find1_any x _ key wr (((HB.out.step hb).cell 0))).mono ?_
  rintro e w1 ⟨rfl, hb1⟩
  go_wp2_with fail
  go_ret
  exact ⟨rfl, HA2.out.step' hb1⟩

end Go.Proofs.YtblepmmibhphhaaGreatDoor

namespace Go.Proofs.YtblepmmibhphhaaGreatDoor
open Go.RowKit

theorem flat_setj {α : Type} {rec : α → List Value} {s : Nat} (hs : ∀ a, (rec a).length = s) : ∀ {xs : List α} {i j : Nat} {a a' : α} {v : Value}, xs[i]? = some a → j < s → (rec a).set j v = rec a' → (flat rec xs).set (i * s + j) v = flat rec (xs.set i a') := by
  intro xs
  induction xs with
  | nil => intro i j a a' v h; simp at h
  | cons b l ih =>
    intro i j a a' v h1 hj h2
    have e : ∀ (y : α) (t : List α), flat rec (y :: t) = rec y ++ flat rec t := fun _ _ => rfl
    cases i with
    | zero =>
      simp at h1
      subst h1
      rw [Nat.zero_mul, Nat.zero_add, List.set_cons_zero, e, e, List.set_append_left _ _ (by rw [hs]; exact hj), h2]
    | succ i =>
      rw [List.set_cons_succ, e, e, List.set_append_right _ _ (by rw [hs, Nat.add_mul]; omega), hs, show (i + 1) * s + j - s = i * s + j by rw [Nat.add_mul]; omega, ih (by simpa using h1) hj h2]
/-- a store into a row of the call's own -/
theorem own_set {w : World} {base : Nat} {e : TypeId} {size n c g : Nat} {xs : List Value} (h : w.ownsRow base e size (.slice (some ⟨g, 0, none⟩) n c) n xs) (k : Nat) (u : Value) :
    (w.setCell ⟨g, k, none⟩ u).ownsRow base e size (.slice (some ⟨g, 0, none⟩) n c) n (xs.set k u) := by
  refine ⟨by rw [List.length_set]; exact h.1, ?_⟩
  rcases h.2 with ⟨h1, _⟩ | ⟨g', cap, cur, hv, hg, hh, hnc, hm, hsz, htk⟩
  · cases h1
  · injection hv with h1 h2 h3
    injection h1 with h1
    injection h1 with h1
    subst h1 h3
    have hb : Blk w g e cur := hh
    refine .inr ⟨g, c, cur.setIfInBounds k u, rfl, hg, hb.set_ k u, hnc, hm, by simpa using hsz, ?_⟩
    rw [Array.toList_setIfInBounds, List.take_set, htk]
theorem own_cell {w : World} {base : Nat} {e : TypeId} {size n c g : Nat} {xs : List Value} (h : w.ownsRow base e size (.slice (some ⟨g, 0, none⟩) n c) n xs) {k : Nat} {u : Value} (hk : xs[k]? = some u) : w.cell? ⟨g, k, none⟩ = some u ∧ w.frozen? ⟨g, k, none⟩ = false := by
  have := h.cells (g := g) rfl k u hk
  rw [addr_add, Nat.zero_add] at this
  refine ⟨this, ?_⟩
  rcases h.2 with ⟨h1, _⟩ | ⟨g', cap, cur, hv, hg, hh, _⟩
  · cases h1
  · injection hv with h1
    injection h1 with h1
    injection h1 with h1
    subst h1
    exact Blk.frozen (t := e) (cs := cur) hh k
theorem own_mono {w : World} {base base' : Nat} {e : TypeId} {size n : Nat} {v : Value} {xs : List Value} (h : w.ownsRow base e size v n xs) (hb : base' ≤ base) : w.ownsRow base' e size v n xs := by
  refine ⟨h.1, ?_⟩
  rcases h.2 with h2 | ⟨g, cap, cur, hv, hg, hr⟩
  · exact .inl h2
  · exact .inr ⟨g, cap, cur, hv, by omega, hr⟩
theorem own_far {w : World} {base : Nat} {e : TypeId} {size n : Nat} {v : Value} {xs : List Value} (h : w.ownsRow base e size v n xs) {p : Addr} (hp : v.ownBlock ≠ some p.block) (u : Value) : (w.setCell p u).ownsRow base e size v n xs :=
  own_keep h fun g hg => Below.heap_setCell w p u g (fun e => hp (by rw [← e]; exact hg))

/-- footprints -/
structure STF (F : Nat → Prop) (w : World) (A : Option Addr) (n c : Nat) (l : List ByteArray) : Prop where
  st : ST w A n c l
  blk : 0 < n → ∀ b off, A = some ⟨b, off, none⟩ → F b
theorem ST.keep {w w' : World} {A : Option Addr} {n c : Nat} {l : List ByteArray} (h : ST w A n c l) (hs : w.heap.size ≤ w'.heap.size) (hk : 0 < n → ∀ b off, A = some ⟨b, off, none⟩ → w'.heap[b]? = w.heap[b]?) : ST w' A n c l := by
  refine ⟨⟨h.sr.ln, h.sr.lc, fun hn => ?_⟩, h.sz, h.el⟩
  obtain ⟨b, off, h1, h2, h3⟩ := h.sr.el hn
  exact ⟨b, off, h1, by omega, fun i a hi j v hj => (World.cell?_of_block (w := w) (a := ⟨b, off + i * 1 + j, none⟩) (hk hn b off h1)).trans (h3 i a hi j v hj)⟩
theorem STF.keep {F G : Nat → Prop} {w w' : World} {A : Option Addr} {n c : Nat} {l : List ByteArray} (h : STF F w A n c l) (hs : w.heap.size ≤ w'.heap.size) (hk : ∀ b, F b → b < w.heap.size → G b ∧ w'.heap[b]? = w.heap[b]?) : STF G w' A n c l := by
  have hlt : 0 < n → ∀ b off, A = some ⟨b, off, none⟩ → b < w.heap.size := by
    intro hn b off e
    obtain ⟨b', off', h1, h2, _⟩ := h.st.sr.el hn
    rw [e] at h1
    cases h1
    exact h2
  exact ⟨h.st.keep hs fun hn b off e => (hk b (h.blk hn b off e) (hlt hn b off e)).2, fun hn b off e => (hk b (h.blk hn b off e) (hlt hn b off e)).1⟩
structure ORF (F : Nat → Prop) (w : World) (o : OC) (q : Od) : Prop where
  d : o.d = q.d
  st : STF F w o.A o.n o.c q.p
theorem ORF.keep {F G : Nat → Prop} {w w' : World} {o : OC} {q : Od} (h : ORF F w o q) (hs : w.heap.size ≤ w'.heap.size) (hk : ∀ b, F b → b < w.heap.size → G b ∧ w'.heap[b]? = w.heap[b]?) : ORF G w' o q := ⟨h.d, h.st.keep hs hk⟩
def KSF (F : Nat → Prop) (w : World) (A : Option Addr) (n c : Nat) (ks : List Od) : Prop :=
  ∃ os : List OC, SR 2 recO w A n c os ∧ n * 32 ≤ reach ∧ os.length = ks.length ∧ (0 < n → ∀ b off, A = some ⟨b, off, none⟩ → F b) ∧ ∀ (i : Nat) (o : OC) (q : Od), os[i]? = some o → ks[i]? = some q → ORF F w o q
theorem KSF.ks {F : Nat → Prop} {w : World} {A : Option Addr} {n c : Nat} {ks : List Od} (h : KSF F w A n c ks) : KS w A n c ks := by
  obtain ⟨os, h1, h2, h3, h4, h5⟩ := h
  exact ⟨os, h1, h2, h3, fun i o q hi hq => ⟨(h5 i o q hi hq).d, (h5 i o q hi hq).st.st⟩⟩
theorem KSF.keep {F G : Nat → Prop} {w w' : World} {A : Option Addr} {n c : Nat} {ks : List Od} (h : KSF F w A n c ks) (hs : w.heap.size ≤ w'.heap.size) (hk : ∀ b, F b → b < w.heap.size → G b ∧ w'.heap[b]? = w.heap[b]?) : KSF G w' A n c ks := by
  obtain ⟨os, h1, h2, h3, h4, h5⟩ := h
  have hlt : 0 < n → ∀ b off, A = some ⟨b, off, none⟩ → b < w.heap.size := by
    intro hn b off e
    obtain ⟨b', off', k1, k2, _⟩ := h1.el hn
    rw [e] at k1
    cases k1
    exact k2
  refine ⟨os, ⟨h1.ln, h1.lc, fun hn => ?_⟩, h2, h3, fun hn b off e => (hk b (h4 hn b off e) (hlt hn b off e)).1, fun i o q hi hq => (h5 i o q hi hq).keep hs hk⟩
  obtain ⟨b, off, k1, k2, k3⟩ := h1.el hn
  exact ⟨b, off, k1, by omega, fun i a hi j v hj => (World.cell?_of_block (w := w) (a := ⟨b, off + i * 2 + j, none⟩) (hk b (h4 hn b off k1) k2).2).trans (k3 i a hi j v hj)⟩
theorem KS.toF {w : World} {A : Option Addr} {n c : Nat} {ks : List Od} (h : KS w A n c ks) : KSF (fun b => b < w.heap.size) w A n c ks := by
  obtain ⟨os, h⟩ := h
  refine ⟨os, h.sr, h.sz, h.ln, fun hn b off e => ?_, fun i o q hi hq => ⟨(h.el i o q hi hq).d, (h.el i o q hi hq).st, fun hn b off e => ?_⟩⟩
  · obtain ⟨b', off', k1, k2, _⟩ := h.sr.el hn
    rw [e] at k1
    cases k1
    exact k2
  · obtain ⟨b', off', k1, k2, _⟩ := (h.el i o q hi hq).st.sr.el hn
    rw [e] at k1
    cases k1
    exact k2

/-- six stores -/
abbrev setR (w : World) (g : Nat) (a : RA) (R : Ro) : World :=
  (((((w.setCell ⟨g, 0, none⟩ (.string R.sp)).setCell ⟨g, 1, none⟩ (.slice a.KA a.kn a.kc)).setCell ⟨g, 2, none⟩ (.bool R.ha)).setCell ⟨g, 3, none⟩ (.int .i64 R.ep)).setCell ⟨g, 4, none⟩ (.int .i64 R.ver)).setCell ⟨g, 5, none⟩ (.slice a.CA a.cn a.cc)
theorem Blk.putR {w : World} {g : Nat} {t : TypeId} {a b : RA} {R S : Ro} (h : Blk w g t (rarr b S)) : Blk (setR w g a R) g t (rarr a R) := (((((h.set_ 0 _).set_ 1 _).set_ 2 _).set_ 3 _).set_ 4 _).set_ 5 _
theorem heap_setR (w : World) (g : Nat) (a : RA) (R : Ro) (b : Nat) (h : b ≠ g) : (setR w g a R).heap[b]? = w.heap[b]? := by
  unfold setR
  iterate 6 rw [Below.heap_setCell _ _ _ b h]
theorem size_setR (w : World) (g : Nat) (a : RA) (R : Ro) : (setR w g a R).heap.size = w.heap.size := by simp [setR, World.setCell]
theorem below_setR {B : Nat} {a0 w : World} (h : Below B a0 w) {g : Nat} (hB : B ≤ g) (a : RA) (R : Ro) : Below B a0 (setR w g a R) :=
  (((((h.setCell hB _).setCell hB _).setCell hB _).setCell hB _).setCell hB _).setCell hB _

theorem load_ro (g : Nat) (a : RA) (R : Ro) (W : World) (q : Blk W g 45 (rarr a R)) : (loadVar 45 ⟨g, 0, none⟩).run Tryz.prog W = .ok (rval a R) W := by
  have q0 := q.cell 0
  have q1 := q.cell 1
  have q2 := q.cell 2
  have q3 := q.cell 3
  have q4 := q.cell 4
  have q5 := q.cell 5
  simp at q0 q1 q2 q3 q4 q5
  simp [go_sem, q0, q1, q2, q3, q4, q5]
theorem results_ro {fn : Func} {p : Tmp} (h : fn.results = #[.cell p 45]) (tmps : Array Value) (g1 : Nat) (h1 : tmps[p]?.getD undef = .pointer (some ⟨g1, 0, none⟩)) (W : World) (a : RA) (R : Ro) (q : Blk W g1 45 (rarr a R)) :
    (results fn tmps).run Tryz.prog W = .ok (rval a R) W := by
  have := load_ro g1 a R W q
  simp [results, h, h1, asAddr, this]
theorem results_ro_err {fn : Func} {p u : Tmp} (h : fn.results = #[.cell p 45, .tmp u]) (tmps : Array Value) (g1 : Nat) (h1 : tmps.getD p undef = .pointer (some ⟨g1, 0, none⟩)) (e : Value) (h2 : tmps.getD u undef = e)
    (W : World) (a : RA) (R : Ro) (q : Blk W g1 45 (rarr a R)) : (results fn tmps).run Tryz.prog W = .ok (.tuple #[rval a R, e]) W := by
  rw [results_cell_tmp h, h1, h2]
  simp [asAddr, load_ro g1 a R W q]

/-- the state of copied's loop -/
structure Cpy (B : Nat) (w : World) (a : RA) (R : Ro) (A : Option Addr) (c : Nat) (os : List OC) (wr : World) : Prop where
  b0 : Blk wr w.heap.size 45 (rarr ⟨A, a.kn, c, a.CA, a.cn, a.cc⟩ R)
  b1 : Blk wr (w.heap.size + 1) 45 (rarr RA.zero Ro.zero)
  own : wr.ownsRow (w.heap.size + 2) 65 2 (.slice A a.kn c) a.kn (flat recO os)
  ln : os.length = a.kn
  el : ∀ (i : Nat) (o : OC) (q : Od), os[i]? = some o → R.ks[i]? = some q → ORF (fun b => (b < B ∨ w.heap.size + 2 ≤ b) ∧ (Value.slice A a.kn c).ownBlock ≠ some b) wr o q
  bel : Below w.heap.size w wr
theorem Cpy.step {B : Nat} {w wr w1 : World} {a : RA} {R : Ro} {A : Option Addr} {c : Nat} {os : List OC} (h : Cpy B w a R A c os wr) (hb : Below wr.heap.size wr w1) : Cpy B w a R A c os w1 :=
  ⟨h.b0.step hb, h.b1.step hb, own_step h.own hb, h.ln, fun i o q hi hq => (h.el i o q hi hq).keep hb.size fun b hF hlt => ⟨hF, hb.block b hlt⟩, h.bel.step' hb⟩
theorem Cpy.next {B : Nat} {w wr : World} {a : RA} {R : Ro} {g c : Nat} {os : List OC} (h : Cpy B w a R (some ⟨g, 0, none⟩) c os wr) {i : Nat} {o : OC} {q : Od} (hi : os[i]? = some o) (hq : R.ks[i]? = some q) {A : Option Addr} {n k : Nat}
    (hst : STF (fun b => w.heap.size + 2 ≤ b ∧ b ≠ g) wr A n k q.p) : Cpy B w a R (some ⟨g, 0, none⟩) c (os.set i ⟨A, n, k, o.d⟩) (wr.setCell ⟨g, i * 2, none⟩ (.slice A n k)) := by
  have hg : w.heap.size + 2 ≤ g := own_ge h.own g rfl
  have hown := own_set h.own (i * 2) (.slice A n k)
  rw [show i * 2 = i * 2 + 0 by rfl, flat_setj recO_length hi (by omega) (a' := ⟨A, n, k, o.d⟩) rfl] at hown
  refine ⟨h.b0.far (by show w.heap.size ≠ g; omega) _, h.b1.far (by show w.heap.size + 1 ≠ g; omega) _, hown, by rw [List.length_set]; exact h.ln, fun j o' q' hj hq' => ?_, h.bel.setCell (by show w.heap.size ≤ g; omega) _⟩
  rw [List.getElem?_set] at hj
  split at hj
  · rename_i e
    subst e
    split at hj
    · injection hj with hj
      subst hj
      rw [hq] at hq'
      injection hq' with hq'
      subst hq'
      exact ⟨(h.el i o q hi hq).d, hst.keep (by simp [World.setCell]) fun b hF _ => ⟨⟨.inr hF.1, by simp [Value.ownBlock]; exact fun e => hF.2 e.symm⟩, Below.heap_setCell _ _ _ b hF.2⟩⟩
    · cases hj
  · exact (h.el j o' q' hj hq').keep (by simp [World.setCell]) fun b hF _ => ⟨hF, Below.heap_setCell _ _ _ b fun e => hF.2 (by simp [Value.ownBlock]; exact e.symm)⟩

/-- what a copy of routes is: the chunks lie in a row of its own -/
def CopOk (B : Nat) (w : World) (R : Ro) (e : Ending) (w' : World) : Prop :=
  ∃ a : RA, e = .returned (rval a R) ∧ KSF (fun b => (b < B ∨ w.heap.size ≤ b) ∧ (Value.slice a.CA a.cn a.cc).ownBlock ≠ some b) w' a.KA a.kn a.kc R.ks ∧ w'.ownsRow w.heap.size 58 5 (.slice a.CA a.cn a.cc) a.cn (flat recC R.cs) ∧ a.cn = R.cs.length ∧ a.cn * 56 ≤ reach ∧ Below w.heap.size w w'

end Go.Proofs.YtblepmmibhphhaaGreatDoor

namespace Go.Proofs.YtblepmmibhphhaaGreatDoor
open Go.RowKit

/-- routes that were copied, with the next version -/
def Ro.nx (R : Ro) : Ro := ⟨R.sp, R.ks, R.ha, R.ep, Go.Proofs.YtblepmmibhphhaaGreatDoor.nx R.ver, R.cs⟩
end Go.Proofs.YtblepmmibhphhaaGreatDoor

namespace Go.Proofs.YtblepmmibhphhaaGreatDoor
open Go.RowKit

/-- a row of the call's own, with its spare cells -/
theorem own_blk {w : World} {base : Nat} {e : TypeId} {s n c g : Nat} {xs : List Value} (h : w.ownsRow base e s (.slice (some ⟨g, 0, none⟩) n c) n xs) :
    ∃ R : List Value, Blk w g e (xs ++ R).toArray ∧ (xs ++ R).length = c * s ∧ n ≤ c ∧ c ≤ maxLen ∧ base ≤ g := by
  rcases h.2 with ⟨h1, _⟩ | ⟨g', cap, cur, hv, hg, hh, hnc, hm, hsz, htk⟩
  · cases h1
  · injection hv with h1 h2 h3
    injection h1 with h1
    injection h1 with h1
    subst h1 h3
    refine ⟨cur.toList.drop (n * s), ?_, ?_, hnc, hm, hg⟩
    · rw [← htk, List.take_append_drop]
      exact hh
    · rw [← htk, List.take_append_drop]
      simpa using hsz
theorem blk_own {w : World} {base : Nat} {e : TypeId} {s n c g : Nat} {xs R : List Value} (h : Blk w g e (xs ++ R).toArray) (hx : xs.length = n * s) (hl : (xs ++ R).length = c * s) (hnc : n ≤ c) (hm : c ≤ maxLen) (hg : base ≤ g) :
    w.ownsRow base e s (.slice (some ⟨g, 0, none⟩) n c) n xs :=
  ⟨hx, .inr ⟨g, c, (xs ++ R).toArray, rfl, hg, h, hnc, hm, by simpa using hl, by rw [List.toList_toArray, ← hx, List.take_left]⟩⟩

theorem run_copy_rec {P : Program} (w : World) (dT sT ty elem : TypeId) (b o dLen dCap : Nat) (a : Addr) (sLen sCap s : Nat) (cs : List Value)
    (hu : P.underlying dT = some (.slice elem)) (hs : (P.info? elem).map (·.size) = some s) (hn : cs.length = Nat.min sLen dLen * s)
    (hsrc : ∀ j v, cs[j]? = some v → w.cell? (a.add j) = some v) (hc : ∀ j, j < cs.length → (w.cell? ⟨b, o + j, none⟩).isSome = true) (hf : ∀ j, j < cs.length → w.frozen? ⟨b, o + j, none⟩ = false) (h1 : ∀ v ∈ cs, v.oneCell' = true) :
    (Builtin.copy_ #[dT, sT] ty #[.slice (some ⟨b, o, none⟩) dLen dCap, .slice (some a) sLen sCap]).run P w = .ok (goInt (Nat.min sLen dLen)) (w.setCells b o cs) := by
  have hl := run_loadCells_list (P := P) w a cs hsrc
  have hst := run_storeCells_cells (P := P) b o cs 0 w (by simpa using hc) (by simpa using hf) h1
  cases hq : P.info? elem with
  | none => simp [hq] at hs
  | some i =>
    have hi : i.size = s := by simpa [hq] using hs
    simp [Builtin.copy_, run_underlying hu, Builtin.lenOf, Builtin.firstCells, sizeOf, typeInfo, hq, hi, ← hn, hl, hst]

theorem Blk.shape {w : World} {g : Nat} {t : TypeId} {cs : Array Value} (h : Blk w g t cs) : w.shape? g = some (t, cs.size) := by
  unfold Blk at h
  unfold World.shape?
  rw [h]

/-- what Insert hands back -/
def InsOk (lo g n : Nat) (cs : List Ch) (w : World) (e : Ending) (w' : World) : Prop :=
  ∃ A c, e = .returned (.slice A (n + 1) c) ∧ w'.ownsRow lo 58 5 (.slice A (n + 1) c) (n + 1) (flat recC cs) ∧ w.grownBy w' (some g)

end Go.Proofs.YtblepmmibhphhaaGreatDoor

namespace Go.Proofs.YtblepmmibhphhaaGreatDoor
open Go.RowKit

theorem eraseC_list (cs : List Ch) (R : List Value) (i : Nat) (hi : i < cs.length) : setList (setList (flat recC cs ++ R) (i * 5) (flat recC (cs.drop (i + 1)))) ((cs.length - 1) * 5) (recC Ch.zero) = flat recC (cs.eraseIdx i) ++ (recC Ch.zero ++ R) := by
  have hl := flat_length recC_length cs
  have hd := flat_length recC_length (cs.drop (i + 1))
  rw [List.length_drop] at hd
  have e1 : setList (flat recC cs ++ R) (i * 5) (flat recC (cs.drop (i + 1))) = flat recC (cs.eraseIdx i) ++ (flat recC (cs.drop (cs.length - 1)) ++ R) := by
    rw [setList_eq _ _ _ (by rw [List.length_append]; omega), List.take_append_of_le_length (by omega), flat_take recC_length, hd, show i * 5 + (cs.length - (i + 1)) * 5 = (cs.length - 1) * 5 by omega, List.drop_append_of_le_length (by omega), flat_drop recC_length, List.eraseIdx_eq_take_drop_succ, flat_append]
  have hel : (flat recC (cs.eraseIdx i)).length = (cs.length - 1) * 5 := by rw [flat_length recC_length, List.length_eraseIdx_of_lt hi]
  have hd2 := flat_length recC_length (cs.drop (cs.length - 1))
  rw [List.length_drop] at hd2
  have h5 : (recC Ch.zero).length = 5 := rfl
  have hd3 : (flat recC (cs.drop (cs.length - 1))).length = 5 := by omega
  rw [e1, setList_eq _ _ _ (by rw [List.length_append, List.length_append, hel, hd3, h5]; omega), ← hel, List.take_left, h5, List.append_assoc]
  congr 2
  rw [← List.append_assoc, show (flat recC (cs.eraseIdx i)).length + 5 = (flat recC (cs.eraseIdx i) ++ flat recC (cs.drop (cs.length - 1))).length by rw [List.length_append, hd3], List.drop_left]

set_option maxRecDepth 100000 in
theorem zero_chunk : ∀ w, (zeroValue 58).run Tryz.prog w = .ok (.agg (recC Ch.zero).toArray) w := fun _ => rfl

/-- what Delete leaves -/
def DelC (lo g n c : Nat) (cs : List Ch) (w : World) (e : Ending) (w' : World) : Prop :=
  e = .returned (.slice (some ⟨g, 0, none⟩) (n - 1) c) ∧ w'.ownsRow lo 58 5 (.slice (some ⟨g, 0, none⟩) (n - 1) c) (n - 1) (flat recC cs) ∧ But g w w'

end Go.Proofs.YtblepmmibhphhaaGreatDoor

namespace Go.Proofs.YtblepmmibhphhaaGreatDoor
open Go.RowKit

theorem KS.toB {w w' : World} {A : Option Addr} {n c : Nat} {ks : List Od} (h : KS w A n c ks) (hb : Below w.heap.size w w') : KSF (fun b => b < w.heap.size) w' A n c ks :=
  h.toF.keep hb.size fun b hF hlt => ⟨hF, hb.block b hlt⟩
theorem KSF.lt {F : Nat → Prop} {w : World} {A : Option Addr} {n c : Nat} {ks : List Od} (h : KSF F w A n c ks) : KSF (fun b => F b ∧ b < w.heap.size) w A n c ks :=
  h.keep (Nat.le_refl _) fun _ hF hlt => ⟨⟨hF, hlt⟩, rfl⟩

/-- routes in the variable that lies in block N; their chunks lie in a row of the call's own; blocks from hi on are others -/
structure Vr (B lo hi N : Nat) (w : World) (a : RA) (R : Ro) (cs : List Ch) (wr : World) : Prop where
  b0 : Blk wr N 45 (rarr a R)
  own : wr.ownsRow lo 58 5 (.slice a.CA a.cn a.cc) a.cn (flat recC cs)
  og : ∀ g, (Value.slice a.CA a.cn a.cc).ownBlock = some g → g < hi
  ks : KSF (fun b => ((b < B ∨ lo ≤ b) ∧ b < hi) ∧ (Value.slice a.CA a.cn a.cc).ownBlock ≠ some b) wr a.KA a.kn a.kc R.ks
  ln : a.cn = cs.length
  sz : a.cn * 56 ≤ reach
  bel : Below B w wr
  hn : B ≤ N ∧ N < lo ∧ lo ≤ hi ∧ hi ≤ wr.heap.size
section
variable {B lo hi N : Nat} {w wr w1 : World} {a : RA} {R : Ro} {cs : List Ch}
theorem Vr.step (h : Vr B lo hi N w a R cs wr) (hb : Below wr.heap.size wr w1) : Vr B lo hi N w a R cs w1 :=
  ⟨h.b0.step hb, own_step h.own hb, h.og, h.ks.keep hb.size fun b hF hlt => ⟨hF, hb.block b hlt⟩, h.ln, h.sz, h.bel.trans (hb.mono (by have := h.hn; omega)), ⟨h.hn.1, h.hn.2.1, h.hn.2.2.1, Nat.le_trans h.hn.2.2.2 hb.size⟩⟩
theorem Vr.of {a0 : RA} {R0 : Ro} (h0 : Blk w1 N 45 (rarr a0 R0)) (hN : B ≤ N) (hNl : N < lo)
    (hks : KSF (fun b => (b < B ∨ lo ≤ b) ∧ (Value.slice a.CA a.cn a.cc).ownBlock ≠ some b) w1 a.KA a.kn a.kc R.ks) (hown : w1.ownsRow lo 58 5 (.slice a.CA a.cn a.cc) a.cn (flat recC R.cs))
    (hln : a.cn = R.cs.length) (hsz : a.cn * 56 ≤ reach) (hlo : lo ≤ w1.heap.size) (hbel : Below B w w1) : Vr B lo w1.heap.size N w a R R.cs (setR w1 N a R) := by
  have hge := own_ge hown
  refine ⟨h0.putR, own_keep hown fun g hg => heap_setR _ _ _ _ g (by have := hge g hg; omega), fun g hg => own_lt hown hg, hks.lt.keep (by rw [size_setR]; exact Nat.le_refl _) fun b hF hlt => ⟨⟨⟨hF.1.1, hF.2⟩, hF.1.2⟩, heap_setR _ _ _ _ b (by have := hF.1.1; omega)⟩, hln, hsz, below_setR hbel hN _ _, ⟨hN, hNl, hlo, by rw [size_setR]; exact Nat.le_refl _⟩⟩
/-- a store into a chunk -/
theorem Vr.put {g : Nat} (h : Vr B lo hi N w a R cs wr) (hg : a.CA = some ⟨g, 0, none⟩) {i j : Nat} {c c' : Ch} {v : Value} (hi' : cs[i]? = some c) (hj : j < 5) (he : (recC c).set j v = recC c') : Vr B lo hi N w a R (cs.set i c') (wr.setCell ⟨g, i * 5 + j, none⟩ v) := by
  obtain ⟨KA, kn, kc, CA, cn, cc⟩ := a
  simp only at hg
  subst hg
  have hge := own_ge h.own g rfl
  have ho := own_set h.own (i * 5 + j) v
  rw [flat_setj recC_length hi' hj he] at ho
  refine ⟨h.b0.far (by show N ≠ g; have := h.hn; omega) _, ho, h.og, h.ks.keep (by simp [World.setCell]) fun b hF _ => ⟨hF, Below.heap_setCell _ _ _ b (by show b ≠ g; intro e; exact hF.2 (by rw [e]; rfl))⟩, by rw [List.length_set]; exact h.ln, h.sz, h.bel.setCell (by show B ≤ g; have := h.hn; omega) _, ?_⟩
  have := h.hn
  simpa using this
/-- a store into another block -/
theorem Vr.far (h : Vr B lo hi N w a R cs wr) {p : Addr} (hp : hi ≤ p.block ∨ (B ≤ p.block ∧ p.block < lo ∧ p.block ≠ N)) (v : Value) : Vr B lo hi N w a R cs (wr.setCell p v) := by
  have hn := h.hn
  refine ⟨h.b0.far (by omega) _, own_far h.own (fun e => by have := h.og _ e; have := own_ge h.own _ e; omega) _, h.og, h.ks.keep (by simp [World.setCell]) fun b hF _ => ⟨hF, Below.heap_setCell _ _ _ b (by have := hF.1; omega)⟩, h.ln, h.sz, h.bel.setCell (by omega) _, by simpa using hn⟩
theorem Vr.get (h : Vr B lo hi N w a R cs wr) {i : Nat} {c : Ch} (hi' : cs[i]? = some c) : ∃ g, a.CA = some ⟨g, 0, none⟩ ∧ lo ≤ g ∧ g < hi ∧ ∀ j v, (recC c)[j]? = some v → wr.cell? ⟨g, i * 5 + j, none⟩ = some v ∧ wr.frozen? ⟨g, i * 5 + j, none⟩ = false := by
  obtain ⟨KA, kn, kc, CA, cn, cc⟩ := a
  have hl : i < cs.length := (List.getElem?_eq_some_iff.1 hi').1
  have hln : cn = cs.length := h.ln
  obtain ⟨g, cap, hv, hge, _⟩ := h.own.form (by show 0 < cn; omega)
  have hv2 : CA = some ⟨g, 0, none⟩ := by injection hv
  subst hv2
  exact ⟨g, rfl, hge, h.og g rfl, fun j v hv => own_cell h.own (flat_get recC_length hi' hv)⟩
end

/-- what is left at the end of a change -/
theorem change_end {B lo g1 : Nat} {w wr : World} {a b : RA} {R S : Ro} (hB : B = w.heap.size) (h1 : Blk wr g1 45 (rarr b S)) (hg : B ≤ g1) (hgl : g1 < lo) (hsp : R.sp.size ≤ reach)
    (hks : KSF (fun b => b < B ∨ lo ≤ b) wr a.KA a.kn a.kc R.ks) (hown : wr.ownsRow lo 58 5 (.slice a.CA a.cn a.cc) a.cn (flat recC R.cs)) (hln : a.cn = R.cs.length) (hsz : a.cn * 56 ≤ reach) (hbel : Below B w wr) :
    RouOk (R, 0) w (.returned (.tuple #[rval a R, .int .i64 0])) (setR wr g1 a R) ∧ Blk (setR wr g1 a R) g1 45 (rarr a R) := by
  subst hB
  have ho := own_keep hown (w' := setR wr g1 a R) fun g hg => heap_setR _ _ _ _ g (by have := own_ge hown g hg; omega)
  obtain ⟨A', c', hv, hsr⟩ := SR.of_own recC_length ho hln.symm
  injection hv with e1 e2 e3
  subst e1 e3
  refine ⟨⟨a, rfl, ⟨hsp, (hks.keep (G := fun _ => True) (by rw [size_setR]; exact Nat.le_refl _) fun b hF _ => ⟨trivial, heap_setR _ _ _ _ b (by omega)⟩).ks, ⟨hsr, hsz⟩⟩, below_setR hbel hg _ _⟩, h1.putR⟩
theorem change_err {g1 : Nat} {w wr : World} {b : RA} {S : Ro} (n : Int) (h1 : Blk wr g1 45 (rarr b S)) (hg : w.heap.size ≤ g1) (hbel : Below w.heap.size w wr) :
    RouOk (Ro.zero, n) w (.returned (.tuple #[rval RA.zero Ro.zero, .int .i64 n])) (setR wr g1 RA.zero Ro.zero) ∧ Blk (setR wr g1 RA.zero Ro.zero) g1 45 (rarr RA.zero Ro.zero) :=
  ⟨⟨RA.zero, rfl, RR.zero, below_setR hbel hg _ _⟩, h1.putR⟩
theorem RouOk.eq {r s : Ro × Int} {w w' : World} {e : Ending} (h : r = s) (k : RouOk s w e w') : RouOk r w e w' := by rw [h]; exact k
theorem set_two {cs : List Ch} {i : Nat} {c d : Ch} : (cs.set i c).set i d = cs.set i d := by simp

end Go.Proofs.YtblepmmibhphhaaGreatDoor

namespace Go.Proofs.YtblepmmibhphhaaGreatDoor
open Go.RowKit

theorem blk_ro {w : World} {g : Nat} {t : TypeId} {a : RA} {R : Ro} (h : Blk w g t (rarr a R)) : w.cell? ⟨g, 0, none⟩ = some (.string R.sp) ∧ w.cell? ⟨g, 1, none⟩ = some (.slice a.KA a.kn a.kc) ∧ w.cell? ⟨g, 2, none⟩ = some (.bool R.ha) ∧ w.cell? ⟨g, 3, none⟩ = some (.int .i64 R.ep) ∧ w.cell? ⟨g, 4, none⟩ = some (.int .i64 R.ver) ∧ w.cell? ⟨g, 5, none⟩ = some (.slice a.CA a.cn a.cc) ∧ ∀ i, w.frozen? ⟨g, i, none⟩ = false := by
  refine ⟨?_, ?_, ?_, ?_, ?_, ?_, h.frozen⟩ <;> rw [h.cell] <;> rfl

end Go.Proofs.YtblepmmibhphhaaGreatDoor


/- router.Targets where the predicate has one range and at most two chunks meet it. -/
namespace Go.Proofs.YtblepmmibhphhaaGreatDoor
open Go.RowKit

def outL (p : BB) (l : List Ch) : List Int := (l.filter (meetB · p)).map Ch.sh
theorem outL_at {p : BB} {l : List Ch} {i : Nat} {c : Ch} (h : l[i]? = some c) : outL p (l.drop i) = (if meetB c p then [c.sh] else []) ++ outL p (l.drop (i + 1)) := by
  rw [drop_of h]
  unfold outL
  rw [List.filter_cons]
  split <;> rfl
def FewL (L : List Int) : Prop := (∃ z, L = [z]) ∨ ∃ x y, x < y ∧ L = [x, y]
theorem sortL_any {L : List Int} (hL : FewL L) (A : Option Addr) (c n : Nat) (w : World) (h : SR 1 recN w A n c L) :
    Calls Tryz.prog 91 #[.slice A n c] w fun e w' => e = .returned (.tuple #[]) ∧ Below w.heap.size w w' := by
  have hn := h.ln
  rcases hL with ⟨z, rfl⟩ | ⟨x, y, hxy, rfl⟩
  · obtain rfl : n = 1 := hn
    exact sortN1_any A c w
  · obtain rfl : n = 2 := hn
    exact sortN2_any x y A c w h hxy
theorem compactL_any {L : List Int} (hL : FewL L) (A : Option Addr) (c n : Nat) (w : World) (h : SR 1 recN w A n c L) :
    Calls Tryz.prog 92 #[.slice A n c] w fun e w' => e = .returned (.slice A n c) ∧ Below w.heap.size w w' := by
  have hn := h.ln
  rcases hL with ⟨z, rfl⟩ | ⟨x, y, hxy, rfl⟩
  · obtain rfl : n = 1 := hn
    exact compactN1_any A c w
  · obtain rfl : n = 2 := hn
    exact compactN2_any x y A c w h hxy

set_option maxRecDepth 100000 in
set_option maxHeartbeats 4000000 in
theorem targets_any (R : Ro) (a : RA) (P : Array Value) (hP : P.size = 25) (p : BB) (w : World) (h : RR w a R) (hn : a.cn ≤ 2) (hL : FewL (outL p R.cs))
    (hRG : ∀ wr, Below w.heap.size w wr → Calls Tryz.prog 39 #[.agg #[.slice a.KA a.kn a.kc, .bool R.ha], .agg P] wr fun e w' => ∃ A' c', e = .returned (.slice A' 1 c') ∧ SR 2 rec2 w' A' 1 c' [p] ∧ Below wr.heap.size wr w') :
    Calls Tryz.prog 55 #[rval a R, .agg P] w fun e w' => ∃ A' n c', e = .returned (.slice A' n c') ∧ SR 1 recN w' A' n c' (outL p R.cs) ∧ Below w.heap.size w w' := by
  obtain ⟨j0, hj0, hy0, hy1, hy2⟩ := info_parts info_int
  obtain ⟨KA, kn, kc, CA, cn, cc⟩ := a
  simp only at hn hRG
  have hPi : (Tryz.prog.info? 81).map (·.size) = some P.size := by rw [hP]; kernel_rfl
  have HPI := Lib.hid hPi
  have HCN := Lib.hid hn
  have HL := Lib.hid hL
  have HRG := Lib.hid hRG
  have HSR := Lib.hid h.cs.sr
  have HLN : Hid (R.cs.length = cn) := h.cs.ln.symm
  have B0 : Hid (Blk ((w.alloc (Obj.cells (rarr ⟨KA, kn, kc, CA, cn, cc⟩ R) 45)).alloc (Obj.cells P 81)) w.heap.size 45 (rarr ⟨KA, kn, kc, CA, cn, cc⟩ R)) := (Blk.new_at rfl).alloc _
  have B1 : Hid (Blk ((w.alloc (Obj.cells (rarr ⟨KA, kn, kc, CA, cn, cc⟩ R) 45)).alloc (Obj.cells P 81)) (w.heap.size + 1) 81 P) := Blk.new_at (by simp)
  have BE : Hid (Below w.heap.size w ((w.alloc (Obj.cells (rarr ⟨KA, kn, kc, CA, cn, cc⟩ R) 45)).alloc (Obj.cells P 81))) := ((Below.refl _ _).alloc (Nat.le_refl _) _).alloc (by simp) _
  clear h hn hL hRG hP hPi
  go_enter Tryz.func55, Tryz.ntmps55
  go_upto_region 1 with fail
  change Code.wp _ _ _ _ ((w.alloc (Obj.cells (rarr ⟨KA, kn, kc, CA, cn, cc⟩ R) 45)).alloc (Obj.cells P 81))
  generalize ((w.alloc (Obj.cells (rarr ⟨KA, kn, kc, CA, cn, cc⟩ R) 45)).alloc (Obj.cells P 81)) = wa at *
  obtain ⟨q0, q1, q2, q3, q4, q5, qz⟩ := blk_ro B0.out
  simp only at q1 q5
  go_wp2_with (refine wpList_load_row rfl 81 _ rfl _ rfl _ _ _ _ B1.out rfl rfl HPI.out ?_)
  refine (HRG.out _ BE.out).mono ?_
  rintro e w3 ⟨A3, c3, rfl, hsr, hb⟩
  have H3 := Lib.hid hsr
  have C0 := Lib.hid (B0.out.step hb)
  have CE := Lib.hid (BE.out.step' hb)
  have CSR := Lib.hid (HSR.out.step (BE.out.step' hb))
  clear hb hsr HRG B0 B1 BE HSR q0 q1 q2 q3 q4 q5 qz
  obtain ⟨q0, q1, q2, q3, q4, q5, qz⟩ := blk_ro C0.out
  simp only at q1 q5
  go_wp2_with fail
  go_loopw [5, 16] (fun u5 u16 wr => ∃ (i : Nat) (L' : List Int), i ≤ cn ∧ L'.length ≤ i ∧ u16 = .int .i64 i ∧ outL p R.cs = L' ++ outL p (R.cs.drop i) ∧ wr.ownsRow w3.heap.size 3 1 u5 L'.length (flat recN L') ∧ Below w3.heap.size w3 wr) (fun _ u16 _ => cn - (intOf u16).toNat)
  case atStart => exact ⟨0, [], Nat.zero_le _, Nat.le_refl _, rfl, rfl, own_nil _ _ _ _, Below.refl _ _⟩
  case round =>
    obtain ⟨i, L', hi, hql, rfl, hall, hown, hbel⟩ := hrel
    have HQL := Lib.hid hql
    have HA := Lib.hid hall
    have HO := Lib.hid hown
    have HB := Lib.hid hbel
    clear hql hall hown q0 q1 q2 q3 q4 q5 qz
    by_cases hlt : i < cn
    · obtain ⟨b, off, c, hA, hbw, hc, e0, e1, e2, e3, e4⟩ := CSR.out.at5 hlt
      subst hA
      have HC := Lib.hid hc
      replace e0 := (hbel.cell (p := ⟨b, off + i * 5, none⟩) hbw).trans e0
      replace e1 := (hbel.cell (p := ⟨b, off + i * 5 + 1, none⟩) hbw).trans e1
      replace e2 := (hbel.cell (p := ⟨b, off + i * 5 + 2, none⟩) hbw).trans e2
      replace e3 := (hbel.cell (p := ⟨b, off + i * 5 + 3, none⟩) hbw).trans e3
      replace e4 := (hbel.cell (p := ⟨b, off + i * 5 + 4, none⟩) hbw).trans e4
      have i0' : (0 : Int) ≤ (i : Int) := by omega
      have i1' : (i : Int) < (cn : Int) := by omega
      have hcn2 : (cn : Int) ≤ 2 := by have := HCN.out; omega
      clear hc hbel hbw
      go_upto_region 6 with fail
      change Code.wp _ _ _ _ (wr.alloc (Obj.cells (recC c).toArray 58))
      have JB : Hid (Blk (wr.alloc (Obj.cells (recC c).toArray 58)) wr.heap.size 58 (recC c).toArray) := Blk.new_at rfl
      have IB := Lib.hid (own_step HO.out ((Below.refl wr.heap.size wr).alloc (Nat.le_refl _) (Obj.cells (recC c).toArray 58)))
      have IBE := Lib.hid (HB.out.alloc HB.out.size (Obj.cells (recC c).toArray 58))
      generalize wr.alloc (Obj.cells (recC c).toArray 58) = wb at *
      generalize wr.heap.size = ga at *
      clear e0 e1 e2 e3 e4 HO HB
      have HK := Lib.hid (containsR1_any c p ga A3 c3 wb JB.out (H3.out.step IBE.out))
      cases hm : meetB c p
      · have HF : Hid (outL p R.cs = L' ++ outL p (R.cs.drop (i + 1))) := by
          unfold Hid
          rw [HA.out, outL_at HC.out, hm]
          rfl
        rw [hm] at HK
        clear hm
        go_wp2_with fail
        refine HK.out.mono ?_
        rintro e w4 ⟨rfl, hb⟩
        have IC := Lib.hid (own_step IB.out hb)
        have ICE := Lib.hid (IBE.out.step' hb)
        clear hb IB IBE JB HK
        go_wp2_with fail
        go_roundw
        case rel => exact ⟨i + 1, L', hlt, by have := HQL.out; omega, by go_num, HF.out, IC.out, ICE.out⟩
        case measure => simp [intOf]; omega
      · have HF : Hid (outL p R.cs = (L' ++ [c.sh]) ++ outL p (R.cs.drop (i + 1))) := by
          unfold Hid
          rw [HA.out, outL_at HC.out, hm]
          simp
        rw [hm] at HK
        clear hm
        go_wp2_with fail
        refine HK.out.mono ?_
        rintro e w4 ⟨rfl, hb⟩
        have IC := Lib.hid ((own_step IB.out hb))
        have ICE := Lib.hid (IBE.out.step' hb)
        have JC := Lib.hid (JB.out.step hb)
        clear hb IB IBE JB HK
        have s2 := JC.out.cell 2
        simp [recC] at s2
        have hlo3 : w3.heap.size ≤ w4.heap.size := ICE.out.size
        have hqi : L'.length ≤ 2 := by have := HQL.out; have := HCN.out; omega
        have ID := Lib.hid (own_step IC.out ((Below.refl w4.heap.size w4).alloc (Nat.le_refl _) (Obj.cells (recN c.sh).toArray 3)))
        have IDE := Lib.hid (ICE.out.alloc ICE.out.size (Obj.cells (recN c.sh).toArray 3))
        clear IC ICE
        go_wp2_with (at_builtin; refine wpList_append_any _ rfl _ _ 94 rfl w3.heap.size 3 j0 (.int .i64 0) 1 8 Tryz.underlying94 hj0 hy0 hy1 hy2 rfl (by decide) u5 L'.length (flat recN L') rfl ID.out _ _ 1 _ (recN c.sh) rfl ⟨rfl, fun _ => ⟨_, rfl, Nat.lt_succ_self _, news_at _ _ _⟩⟩ (recN_one _) (by unfold maxLen; omega) (by omega) (le_alloc hlo3 _) ?_)
        intro v' w6 hown hgr hat
        have HI : Hid (w6.ownsRow w3.heap.size 3 1 v' (L' ++ [c.sh]).length (flat recN (L' ++ [c.sh]))) := by
          unfold Hid
          rw [flat_snoc, List.length_append]
          exact hown
        have HIE := Lib.hid (IDE.out.grown hgr (le_alloc hlo3 _) (own_ge ID.out))
        clear hown hgr hat s2 JC ID IDE
        go_wp2_with fail
        go_roundw
        case rel => exact ⟨i + 1, L' ++ [c.sh], hlt, by rw [List.length_append]; have := HQL.out; simp; omega, by go_num, HF.out, HI.out, HIE.out⟩
        case measure => simp [intOf]; omega
    · obtain rfl : i = cn := by omega
      have HF : outL p R.cs = L' := by
        rw [HA.out, List.drop_of_length_le (by have := HLN.out; omega)]
        simp [outL]
      obtain ⟨A5, c5, hv5, hs5⟩ := SR.of_own recN_length HO.out rfl
      subst hv5
      rw [HF] at HL
      have HFF := Lib.hid HF
      have HS5 := Lib.hid hs5
      have HSO := Lib.hid (sortL_any HL.out A5 c5 _ wr hs5)
      clear hs5 HF hbel HA HO
      go_wp2_with fail
      refine HSO.out.mono ?_
      rintro e w7 ⟨rfl, hb⟩
      have HS7 := Lib.hid (HS5.out.step hb)
      have HE7 := Lib.hid (HB.out.step' hb)
      have HCO := Lib.hid (compactL_any HL.out A5 c5 _ w7 HS7.out)
      clear hb HS5 HSO
      go_wp2_with fail
      refine HCO.out.mono ?_
      rintro e w8 ⟨rfl, hb⟩
      have HS8 := Lib.hid (HS7.out.step hb)
      have HE8 := Lib.hid (CE.out.step' (HE7.out.step' hb))
      clear hb HS7 HCO
      go_wp2_with fail
      go_ret
      exact ⟨A5, _, c5, rfl, by rw [HFF.out]; exact HS8.out, HE8.out⟩

end Go.Proofs.YtblepmmibhphhaaGreatDoor


/- The walk of ShardkeyEncodes. -/
namespace Go.Proofs.YtblepmmibhphhaaGreatDoor
open Go.RowKit

theorem keyE_parts {ks : List Od} {ha : Bool} (h : keyE ks ha = 0) : ks.length ≤ 8 ∧ 1 ≤ ks.length ∧ (ha = true → ks.length = 1) := by
  unfold keyE at h
  split at h
  · rename_i h1; exact absurd h h1
  · rename_i h1
    split at h
    · cases h
    · rename_i h2
      have h3 : ordE ks = 0 := by simpa using h1
      unfold ordE at h3
      split at h3
      · cases h3
      · rename_i h4
        have h5 : ¬ ks.length = 0 := fun e => h2 (.inl e)
        exact ⟨by omega, by omega, fun hh => by
          have : ¬ 1 < ks.length := fun e => h2 (.inr ⟨hh, e⟩)
          omega⟩

set_option maxRecDepth 100000 in
set_option maxHeartbeats 4000000 in
theorem shardkeyEncodes_walk (ks : List Od) (ha : Bool) (A : Option Addr) (n cc : Nat) (x : Val) (c : VC) (w : World) (hT : Tabs w) (hk : KS w A n cc ks) (hx : RW w c x) :
    Calls Tryz.prog 3 #[.agg #[.slice A n cc, .bool ha], c.val] w fun e w' => e = .returned (.bool true) ∧ Below w.heap.size w w' := by
  have HT := Lib.hid hT
  have HN := Lib.hid hk.ln
  have HX := Lib.hid hx
  have HK := Lib.hid hk
  have hnz : (n : Int) ≤ 8796093022208 := by obtain ⟨os, h⟩ := hk; have := h.sz; unfold reach at this; omega
  have I0 : Hid (VlI w #[.slice A n cc, .bool ha] c (.slice none 0 0) [] ((w.alloc (Obj.cells #[.slice A n cc, .bool ha] 24)).alloc (Obj.cells c.arr 28))) := VlI.start
  clear hk hx hT
  go_enter Tryz.func3, Tryz.ntmps3
  go_upto_region 1 with fail
  change Code.wp _ _ _ _ ((w.alloc (Obj.cells #[.slice A n cc, .bool ha] 24)).alloc (Obj.cells c.arr 28))
  generalize ((w.alloc (Obj.cells #[.slice A n cc, .bool ha] 24)).alloc (Obj.cells c.arr 28)) = wa at *
  have B0 := Lib.hid I0.out.b0
  have B1 := Lib.hid I0.out.b1
  have BE := Lib.hid I0.out.vs.bel
  clear I0
  have k0 := B0.out.cell 0
  have k1 := B0.out.cell 1
  simp at k0 k1
  by_cases h20 : 20 < n
  · have h20' : (20 : Int) < (n : Int) := by omega
    go_wp2_with fail
    refine (awake48_any wa (HT.out.step BE.out)).mono ?_
    rintro e w1 ⟨rfl, hb⟩
    have CE := Lib.hid (BE.out.step' hb)
    clear hb BE
    go_wp2_with fail
    go_ret
    exact ⟨rfl, CE.out⟩
  have h20' : ¬ ((20 : Int) < (n : Int)) := by omega
  have HV := Lib.hid (rshardkey_any ks ha A n cc wa (HK.out.step BE.out))
  by_cases hE : keyE ks ha = 0
  rotate_left
  · have hEb : (keyE ks ha != 0) = true := by simpa using hE
    obtain ⟨E, hEE⟩ : ∃ E, keyE ks ha = E := ⟨_, rfl⟩
    rw [hEE] at HV hEb
    clear hE hEE
    go_wp2_with fail
    refine HV.out.mono ?_
    rintro e w1 ⟨rfl, hb⟩
    have CE := Lib.hid (BE.out.step' hb)
    clear hb BE HV B0 B1 k0 k1
    go_wp2_with fail
    refine (awake48_any w1 (HT.out.step CE.out)).mono ?_
    rintro e w2 ⟨rfl, hb⟩
    have DE := Lib.hid (CE.out.step' hb)
    clear hb CE
    go_wp2_with fail
    go_ret
    exact ⟨rfl, DE.out⟩
  rw [hE] at HV
  have HP := Lib.hid (keyE_parts hE)
  clear hE
  go_wp2_with fail
  refine HV.out.mono ?_
  rintro e w1 ⟨rfl, hb⟩
  have C0 := Lib.hid (B0.out.step hb)
  have C1 := Lib.hid (B1.out.step hb)
  have CE := Lib.hid (BE.out.step' hb)
  clear hb BE HV B0 B1 k0 k1
  obtain ⟨a0, a1, a2, a3, a4⟩ := VAt.of_blk C1.out
  simp only [Nat.zero_add] at a0 a1 a2 a3 a4
  have HV := Lib.hid (rvalid_any x c w1 (HX.out.step CE.out))
  cases hv : validV x
  · rw [hv] at HV
    clear hv
    go_wp2_with fail
    refine HV.out.mono ?_
    rintro e w2 ⟨rfl, hb⟩
    have DE := Lib.hid (CE.out.step' hb)
    clear hb CE HV C0 C1 a0 a1 a2 a3 a4
    go_wp2_with fail
    refine (awake48_any w2 (HT.out.step DE.out)).mono ?_
    rintro e w3 ⟨rfl, hb⟩
    have EE := Lib.hid (DE.out.step' hb)
    clear hb DE
    go_wp2_with fail
    go_ret
    exact ⟨rfl, EE.out⟩
  rw [hv] at HV
  clear hv
  go_wp2_with fail
  refine HV.out.mono ?_
  rintro e w2 ⟨rfl, hb⟩
  have D0 := Lib.hid (C0.out.step hb)
  have D1 := Lib.hid (C1.out.step hb)
  have DE := Lib.hid (CE.out.step' hb)
  clear hb CE HV C0 C1 a0 a1 a2 a3 a4
  obtain ⟨a0, a1, a2, a3, a4⟩ := VAt.of_blk D1.out
  simp only [Nat.zero_add] at a0 a1 a2 a3 a4
  have k0 := D0.out.cell 0
  have k1 := D0.out.cell 1
  simp at k0 k1
  obtain ⟨⟨K1, K2⟩, hKK⟩ : ∃ K, encR ks ha x = K := ⟨_, rfl⟩
  have hs := enc_same (ks := ks) (ha := ha) (x := x) HP.out.2.2
  rw [hKK] at hs
  have HEA := Lib.hid (senc_any ks ha A n cc x c w2 (HT.out.step DE.out) (HK.out.step DE.out) (HX.out.step DE.out) HP.out.1)
  rw [hKK] at HEA
  have HEB : Hid (∀ wr, Below w.heap.size w wr → Calls Tryz.prog 13 #[.agg #[.slice A n cc, .bool ha], c.val] wr fun e w' => e = .returned (.tuple #[.string K1, .int .i64 K2]) ∧ Below wr.heap.size wr w') := Lib.hid fun wr hb => by
    have := rsenc_any ks ha A n cc x c wr (HK.out.step hb) (HX.out.step hb) HP.out.1
    rw [hs] at this
    exact this
  clear hKK hs
  go_wp2_with fail
  refine HEA.out.mono ?_
  rintro e w3 ⟨rfl, hb⟩
  have E0 := Lib.hid (D0.out.step hb)
  have E1 := Lib.hid (D1.out.step hb)
  have EE := Lib.hid (DE.out.step' hb)
  clear hb HEA D0 D1 DE a0 a1 a2 a3 a4 k0 k1
  obtain ⟨a0, a1, a2, a3, a4⟩ := VAt.of_blk E1.out
  simp only [Nat.zero_add] at a0 a1 a2 a3 a4
  have k0 := E0.out.cell 0
  have k1 := E0.out.cell 1
  simp at k0 k1
  go_wp2_with fail
  refine (HEB.out w3 EE.out).mono ?_
  rintro e w4 ⟨rfl, hb⟩
  have F1 := Lib.hid (E1.out.step hb)
  have FE := Lib.hid (EE.out.step' hb)
  clear hb HEB E0 E1 EE a0 a1 a2 a3 a4 k0 k1
  obtain ⟨a0, a1, a2, a3, a4⟩ := VAt.of_blk F1.out
  simp only [Nat.zero_add] at a0 a1 a2 a3 a4
  go_upto_region 5 with fail
  have P0 : ∀ q : BW w4, q.val.cell? ⟨w.heap.size + 1, 0, none⟩ = some (.int .i64 c.k) := fun q => q.cell a0
  have P1 : ∀ q : BW w4, q.val.cell? ⟨w.heap.size + 1, 1, none⟩ = some (.int .i64 c.n) := fun q => q.cell a1
  have P2 : ∀ q : BW w4, q.val.cell? ⟨w.heap.size + 1, 2, none⟩ = some (.string c.t) := fun q => q.cell a2
  have P3 : ∀ q : BW w4, q.val.cell? ⟨w.heap.size + 1, 3, none⟩ = some (.slice c.LA c.ln c.lc) := fun q => q.cell a3
  have P4 : ∀ q : BW w4, q.val.cell? ⟨w.heap.size + 1, 4, none⟩ = some (.slice c.DA c.dn c.dc) := fun q => q.cell a4
  obtain ⟨hv, hhv⟩ : ∃ h, h = hashV x := ⟨_, rfl⟩
  have J1 : Hid (∀ q : BW w4, Calls Tryz.prog 14 #[c.val] q.val fun e w'' => e = .returned (.int .i64 hv) ∧ ∃ q : BW w4, w'' = q.val) := fun q =>
    Calls.bw (by rw [hhv]; exact hash_any x c q.val ((HT.out.step FE.out).step q.below) ((HX.out.step FE.out).step q.below))
  have J2 : Hid (∀ q : BW w4, Calls Tryz.prog 15 #[c.val] q.val fun e w'' => e = .returned (.int .i64 hv) ∧ ∃ q : BW w4, w'' = q.val) := fun q =>
    Calls.bw (by rw [hhv]; exact rhash_any x c q.val ((HX.out.step FE.out).step q.below))
  have J3 : Hid (∀ q : BW w4, Calls Tryz.prog 11 #[] q.val fun e w'' => e = .returned (.bool true) ∧ ∃ q : BW w4, w'' = q.val) := fun q =>
    Calls.bw (awake48_any q.val ((HT.out.step FE.out).step q.below))
  have e1 : (K1.toList == K1.toList) = true := by simp
  have e2 : (K2 == K2) = true := by simp
  have e3 : (hv == hv) = true := by simp
  clear a0 a1 a2 a3 a4 hhv F1
  refine wp_region_bw (by kernel_rfl) (by kernel_rfl) ?_
  repeat (go_big_quiet_step (first | (with_reducible exact J1.out _) | (with_reducible exact J2.out _) | (with_reducible exact J3.out _)))
  refine wpQuiet_nil ?_
  rintro _ ⟨kw, rfl⟩
  have ZE := Lib.hid (FE.out.step' kw.below)
  clear P0 P1 P2 P3 P4 J1 J2 J3
  generalize kw.val = w5 at *
  go_wp2_with fail
  go_ret
  exact ⟨rfl, ZE.out⟩

end Go.Proofs.YtblepmmibhphhaaGreatDoor

