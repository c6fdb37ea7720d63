/- The walk of the law GeoShapes. -/
import Derived.Test.YtefolbfopjfbcaaGeoSame
import Derived.Test.YtefolbfopjfbcaaGeoInsidesWalk
namespace Go.Proofs.Ytefolbfopjfbcaa
open Go.RowKit

def oK (o : Option (Int × List (Int × Int) × Int)) : Int := match o with | none => 0 | some (k, _, _) => k
def oP (o : Option (Int × List (Int × Int) × Int)) : List (Int × Int) := match o with | none => [] | some (_, p, _) => p
def oR (o : Option (Int × List (Int × Int) × Int)) : Int := match o with | none => 0 | some (_, _, r) => r
def oE (o : Option (Int × List (Int × Int) × Int)) : Int := match o with | none => 18 | some _ => 0
theorem PRes.one {o : Option (Int × List (Int × Int) × Int)} {w : World} {e : Ending} {w' : World} (h : PRes o w e w') :
    ∃ A n c, e = .returned (.tuple #[shp (oK o) A n c (oR o), .int .i64 (oE o)]) ∧ RdPts w' A n (oP o) ∧ Below w.heap.size w w' := by
  rcases h with ⟨rfl, rfl, hb⟩ | ⟨k, ps, r, A, n, c, rfl, rfl, hr, hb⟩
  · exact ⟨none, 0, 0, rfl, ⟨rfl, by decide, fun h => absurd h (by omega)⟩, hb⟩
  · exact ⟨A, n, c, rfl, hr, hb⟩
theorem parse_valid (x : Val) : oE (parseV x) = 18 ∨ oE (parseV x) = 0 ∧ validB (oK (parseV x)) (oP (parseV x)) (oR (parseV x)) = true := by
  unfold parseV
  split
  · exact .inl rfl
  · unfold bodyOf
    split
    · exact .inl rfl
    · split
      · rename_i hv
        exact .inr ⟨rfl, hv⟩
      · exact .inl rfl

structure GsInv (w : World) (k : Int) (A : Option Addr) (n c : Nat) (r : Int) (k1 : Int) (A1 : Option Addr) (n1 c1 : Nat) (r1 : Int) (g1 : Nat) (A2 : Option Addr) (c2 : Nat) (g2 : Nat) (wr : World) : Prop where
  b1 : Blk wr (w.heap.size + 1) 35 #[.int .i64 k, .slice A n c, .int .i64 r]
  b2 : Blk wr g1 35 #[.int .i64 k1, .slice A1 n1 c1, .int .i64 r1]
  b3 : Blk wr g2 35 #[.int .i64 k1, .slice A2 n1 c2, .int .i64 r1]
  bel : Below w.heap.size w wr
theorem GsInv.step {w : World} {k : Int} {A : Option Addr} {n c : Nat} {r : Int} {k1 : Int} {A1 : Option Addr} {n1 c1 : Nat} {r1 : Int} {g1 : Nat} {A2 : Option Addr} {c2 : Nat} {g2 : Nat} {wr w' : World} (h : GsInv w k A n c r k1 A1 n1 c1 r1 g1 A2 c2 g2 wr) (hb : Below wr.heap.size wr w') : GsInv w k A n c r k1 A1 n1 c1 r1 g1 A2 c2 g2 w' :=
  ⟨h.b1.step hb, h.b2.step hb, h.b3.step hb, h.bel.step' hb⟩

set_option maxRecDepth 100000 in
set_option maxHeartbeats 2000000 in
theorem geoShapes_walk (cv : VC) (x : Val) (k : Int) (A : Option Addr) (n c : Nat) (r : Int) (ps : List (Int × Int)) (w : World) (h : RW w cv x) (hs : RdPts w A n ps) :
    Calls Try.prog 9 #[cv.val, shp k A n c r] w fun e w' => e = .returned (.bool true) ∧ Below w.heap.size w w' := by
  have H := Lib.hid h
  have HS := Lib.hid hs
  have HV := Lib.hid (parse_valid x)
  clear h hs
  go_enter Try.func9, Try.ntmps9
  go_wp2_with fail
  refine (parse_any x cv _ ((H.out.alloc _).alloc _)).mono ?_
  rintro e w1 hres
  obtain ⟨A1, n1, c1, rfl, hr1, hb⟩ := hres.one
  have B0 : Blk w1 w.heap.size 25 cv.arr := ((Blk.new_at rfl).alloc _).step hb
  have B1 : Blk w1 (w.heap.size + 1) 35 #[.int .i64 k, .slice A n c, .int .i64 r] := (Blk.new_at (by simp)).step hb
  have B2 : Below w.heap.size w w1 := (((Below.refl _ _).alloc (Nat.le_refl _) _).alloc (by simp) _).step' hb
  obtain ⟨a0, a1, a2, a3, a4⟩ := VAt.of_blk B0
  have l0 := B0.lt
  have l1 := B1.lt
  have J0 := Lib.hid B1
  have J1 := Lib.hid B2
  have R1 := Lib.hid hr1
  clear B0 B1 B2 hb hr1 hres
  go_wp2_with fail
  have K0 := (Blk.alloc J0.out (Obj.cells #[.int .i64 (oK (parseV x)), .slice A1 n1 c1, .int .i64 (oR (parseV x))] 35))
  have K1 := Blk.new w1 35 #[.int .i64 (oK (parseV x)), .slice A1 n1 c1, .int .i64 (oR (parseV x))]
  have K2 := J1.out.alloc J1.out.size (Obj.cells #[.int .i64 (oK (parseV x)), .slice A1 n1 c1, .int .i64 (oR (parseV x))] 35)
  have KR := H.out.lt.step' K2
  have RA := R1.out.below ((Below.refl w1.heap.size w1).alloc (Nat.le_refl _) (Obj.cells #[.int .i64 (oK (parseV x)), .slice A1 n1 c1, .int .i64 (oR (parseV x))] 35))
  refine (rparse_any x cv _ KR).mono ?_
  rintro e w2 hres
  obtain ⟨A2, n2, c2, rfl, hr2, hb⟩ := hres.one
  have RB := RA.below hb
  obtain rfl : n1 = n2 := RB.1.symm.trans hr2.1
  have I : GsInv w k A n c r (oK (parseV x)) A1 n1 c1 (oR (parseV x)) w1.heap.size A2 c2 w2.heap.size (w2.alloc (Obj.cells #[.int .i64 (oK (parseV x)), .slice A2 n1 c2, .int .i64 (oR (parseV x))] 35)) :=
    ⟨(K0.step hb).alloc _, (K1.step hb).alloc _, Blk.new_at rfl, (K2.step' hb).alloc (K2.step' hb).size _⟩
  have l2 := (K1.step hb).lt
  have QA := RB.below ((Below.refl w2.heap.size w2).alloc (Nat.le_refl _) (Obj.cells #[.int .i64 (oK (parseV x)), .slice A2 n1 c2, .int .i64 (oR (parseV x))] 35))
  have QB := hr2.below ((Below.refl w2.heap.size w2).alloc (Nat.le_refl _) (Obj.cells #[.int .i64 (oK (parseV x)), .slice A2 n1 c2, .int .i64 (oR (parseV x))] 35))
  have HI := Lib.hid I
  have HQA := Lib.hid QA
  have HQB := Lib.hid QB
  have z0 := (K1.step hb).cell 0
  have z1 := (K1.step hb).cell 1
  have z2 := (K1.step hb).cell 2
  simp at z0 z1 z2
  clear K0 K1 K2 KR RA RB QA QB I hb hr2 hres a0 a1 a2 a3 a4 J0 J1 R1
  go_wp2_with fail
  refine (same_any _ _ _ _ _ _ _ (oP (parseV x)) _ HQA.out HQB.out).mono ?_
  rintro e w3 ⟨rfl, hb⟩
  have I3 := HI.out.step hb
  have HQ3 := Lib.hid (HQA.out.below hb)
  have q0 := I3.b2.cell 0
  have q1 := I3.b2.cell 1
  have q2 := I3.b2.cell 2
  simp at q0 q1 q2
  have J3 := Lib.hid I3
  clear z0 z1 z2 HI HQA HQB hb I3
  have hv := HV.out
  clear HV
  rcases hv with hv | ⟨hv, hw⟩
  · rw [hv]
    clear hv
    have J9 := J3
    go_wp2_with fail
    have E0 : ∀ q : BW w3, q.val.cell? ⟨w.heap.size + 1, 0, none⟩ = some (.int .i64 k) := fun q => q.cell (J9.out.b1.cell 0)
    have E1 : ∀ q : BW w3, q.val.cell? ⟨w.heap.size + 1, 1, none⟩ = some (.slice A n c) := fun q => q.cell (J9.out.b1.cell 1)
    have E2 : ∀ q : BW w3, q.val.cell? ⟨w.heap.size + 1, 2, none⟩ = some (.int .i64 r) := fun q => q.cell (J9.out.b1.cell 2)
    have K1 : Hid (∀ q : BW w3, Calls Try.prog 15 #[shp k A n c r] q.val fun e w'' => e = .returned (.int .i64 (errOf (validB k ps r))) ∧ ∃ q : BW w3, w'' = q.val) := fun q =>
      Calls.bw (valid_any k A n c r ps _ ((HS.out.below J9.out.bel).below q.below))
    have K2 : Hid (∀ q : BW w3, Calls Try.prog 16 #[shp k A n c r] q.val fun e w'' => e = .returned (.int .i64 (errOf (validB k ps r))) ∧ ∃ q : BW w3, w'' = q.val) := fun q =>
      Calls.bw (rvalid_any k A n c r ps _ ((HS.out.below J9.out.bel).below q.below))
    refine wp_region_bw (by kernel_rfl) (by kernel_rfl) ?_
    repeat (go_big_quiet_step (first | with_reducible exact K1.out _ | with_reducible exact K2.out _ | with_reducible exact Calls.bw (awake_any _)))
    refine wpQuiet_nil ?_
    rintro _ ⟨kw, rfl⟩
    clear E0 E1 E2
    go_wp2_with fail
    go_ret
    exact ⟨rfl, J9.out.bel.step' kw.below⟩
  · rw [hv]
    clear hv
    have HW := Lib.hid hw
    clear hw
    go_wp2_with fail
    refine (valid_any _ _ _ _ _ _ _ HQ3.out).mono ?_
    rintro e w4 ⟨rfl, hb⟩
    rw [HW.out]
    have J9 := Lib.hid (J3.out.step hb)
    have he : (errOf true != 0) = false := by decide
    clear hb HQ3 q0 q1 q2
    go_wp2_with fail
    clear he
    have E0 : ∀ q : BW w4, q.val.cell? ⟨w.heap.size + 1, 0, none⟩ = some (.int .i64 k) := fun q => q.cell (J9.out.b1.cell 0)
    have E1 : ∀ q : BW w4, q.val.cell? ⟨w.heap.size + 1, 1, none⟩ = some (.slice A n c) := fun q => q.cell (J9.out.b1.cell 1)
    have E2 : ∀ q : BW w4, q.val.cell? ⟨w.heap.size + 1, 2, none⟩ = some (.int .i64 r) := fun q => q.cell (J9.out.b1.cell 2)
    have K1 : Hid (∀ q : BW w4, Calls Try.prog 15 #[shp k A n c r] q.val fun e w'' => e = .returned (.int .i64 (errOf (validB k ps r))) ∧ ∃ q : BW w4, w'' = q.val) := fun q =>
      Calls.bw (valid_any k A n c r ps _ ((HS.out.below J9.out.bel).below q.below))
    have K2 : Hid (∀ q : BW w4, Calls Try.prog 16 #[shp k A n c r] q.val fun e w'' => e = .returned (.int .i64 (errOf (validB k ps r))) ∧ ∃ q : BW w4, w'' = q.val) := fun q =>
      Calls.bw (rvalid_any k A n c r ps _ ((HS.out.below J9.out.bel).below q.below))
    refine wp_region_bw (by kernel_rfl) (by kernel_rfl) ?_
    repeat (go_big_quiet_step (first | with_reducible exact K1.out _ | with_reducible exact K2.out _ | with_reducible exact Calls.bw (awake_any _)))
    refine wpQuiet_nil ?_
    rintro _ ⟨kw, rfl⟩
    clear E0 E1 E2
    go_wp2_with fail
    go_ret
    exact ⟨rfl, J9.out.bel.step' kw.below⟩

end Go.Proofs.Ytefolbfopjfbcaa
