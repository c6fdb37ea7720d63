/- A list of values that came in, opened. -/
import Derived.Test.YtdmabhbhlnpkgaaDoorValOpen
import Derived.Test.YtdmabhbhlnpkgaaDoorValList
namespace Go.Proofs.YtdmabhbhlnpkgaaDoor
open Go.ChangeShapes Go.WideShapes Go.ChangeAt Go.RowKit Go.Joins Go.Deep

section
variable {H : Type} {enc : TypeId × Value → H} {W : World} {base : Nat} {spare : Nat → Bool} {held : Bool}
theorem open_values {r : Reach} {b0 : Nat} {v : Value} {d : DataW H} {p : List MemPlace} (hv : Value.okWide Tryd.prog W r b0 27 v) (h : DataW.Trod enc Tryd.prog W base spare held 27 v d p) (hw : Light 27 d) :
    ∃ (A : Option Addr) (n c : Nat) (ps : List PV), v = .slice A n c ∧ SL (fun _ => True) W A n c ps := by
  obtain ⟨a, len, cap, rfl⟩ := okWide_slice Tryd.underlying27 hv
  obtain ⟨fuel, hf⟩ := h
  obtain ⟨LA, ln, lc, l, e, hl1, hl2, hl3, hl4⟩ := read_list fuel (fun n' _ cs y hy hl => read_value n' cs y hy hl) hf hw
  cases e
  have hr : RW W ⟨0, 0, ByteArray.empty, a, len, cap, none, 0, 0⟩ (.mk 0 0 ByteArray.empty l []) := by
    refine RVs.shut ⟨rfl, rfl, rfl, by show (0 : Nat) ≤ reach; decide, hl1, hl2, hl3, fun hp => ?_, rfl, Nat.le_refl _, by show 0 * 96 ≤ reach; decide, fun h => absurd h (by show ¬ 0 < 0; omega)⟩
    obtain ⟨b, off, e, h⟩ := hl4 hp
    exact ⟨b, off, e, trivial, h⟩
  obtain ⟨ps, _, hs⟩ := hr.sl
  exact ⟨a, len, cap, ps, rfl, hs⟩
end
end Go.Proofs.YtdmabhbhlnpkgaaDoor
