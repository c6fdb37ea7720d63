/- A part of the proof. -/
import Derived.Test.YtgfoliedmhgpnaaGreatDoorBn34
import Derived.Test.YtgfoliedmhgpnaaGreatDoorBn35
set_option maxRecDepth 100000
set_option maxHeartbeats 16000000
set_option linter.unusedSimpArgs false
open Go.Proofs.Tryz
open ByteArray (empty)
namespace Go.Proofs.YtgfoliedmhgpnaaGreatDoor.boundsContain
open Go Go.Shelf Go.ChangeShapes Go.WideShapes Go.ChangeAt Go.RowKit Go.Lib
set_option linter.unusedVariables false
theorem IA:Rows.BoundsContainUptoSaid:=
 OpenClaim.holds_of_cond 5 Tryz.f5 rfl rfl rfl rfl rfl rfl rfl ⟨rfl,rfl,rfl,rfl,rfl⟩ rfl rfl rfl rfl rfl (by kernel_rfl) func5 Gu
  (Lg (by kernel_rfl)) (by unfold Func.isWrapper;first|(rw[Kb (by decide+kernel)];kernel_rfl)|(rw[KU (by decide+kernel)];exact⟨rfl,rfl⟩))
  (fun os started H enc _ F0=>by rw[OpenClaim.pre_eq_preRow];exact GG os started H enc F0)
end Go.Proofs.YtgfoliedmhgpnaaGreatDoor.boundsContain
