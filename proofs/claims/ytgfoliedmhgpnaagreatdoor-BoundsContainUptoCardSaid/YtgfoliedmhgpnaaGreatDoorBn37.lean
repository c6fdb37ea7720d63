/- A part of the proof. -/
import Derived.Test.YtgfoliedmhgpnaaGreatDoorRows
import Derived.Test.YtgfoliedmhgpnaaGreatDoorCards
import Derived.Test.YtgfoliedmhgpnaaGreatDoorTie
import Derived.ProofKit
import Derived.SizedLaws
import Derived.SevenTiedAt
set_option maxRecDepth 100000
set_option maxHeartbeats 16000000
set_option linter.unusedSimpArgs false
open Go.Proofs.Tryz
open ByteArray (empty)
namespace Go.Proofs.YtgfoliedmhgpnaaGreatDoor.boundsContain
open Go Go.RowKit
theorem fw:Rows.boundsContainUptoRow.wfByText (Rows.OpenSpec.upto Rows.boundsContainSpec)=true:=by kernel_rfl
theorem fl:false=Tryz.pinned.checked.prog.looks []:=by kernel_rfl
theorem fg:false=Rows.boundsContainUptoRow.goesBy Tryz.pinned.checked.prog:=by kernel_rfl
end Go.Proofs.YtgfoliedmhgpnaaGreatDoor.boundsContain
