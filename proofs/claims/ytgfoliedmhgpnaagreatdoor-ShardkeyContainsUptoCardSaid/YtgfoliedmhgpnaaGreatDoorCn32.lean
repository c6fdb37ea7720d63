/- A part of the proof. -/
import Derived.Test.YtgfoliedmhgpnaaGreatDoorRows
import Derived.Test.YtgfoliedmhgpnaaGreatDoorCards
import Derived.Test.YtgfoliedmhgpnaaGreatDoorTie
import Derived.ProofKit
import Derived.SizedLaws
import Derived.SevenTiedAt
set_option maxRecDepth 100000
set_option maxHeartbeats 16000000
open Go.Proofs.Tryz
open ByteArray (empty)
namespace Go.Proofs.YtgfoliedmhgpnaaGreatDoor.shardkeyContains
open Go Go.RowKit
theorem Ln:joinedFacts Tryz.pinned.checked.prog 3 Tryz.f3 (Rows.OpenSpec.upto Rows.shardkeyContainsSpec).bare Rows.shardkeyContainsUptoRow=true:=(by kernel_rfl)
end Go.Proofs.YtgfoliedmhgpnaaGreatDoor.shardkeyContains
