/-
  DERIVED. GIVEN WITH THE SEED: THE CARDS: each row of YtgfoliedmhgpnaaGreatDoorRows.lean that lists a variable, with what it lists TIED to the program's text (the seventh form; the later family's looks); each row that meets fmt, with fmt's text TOLD by the authors' own Lean function (tested against real Go, not proved from fmt's source: count such statements apart). THE CARD IS WHAT COUNTS. Prove the row's statement (the work); the ties are given (YtgfoliedmhgpnaaGreatDoorTie.lean); close each card by the builder's one call (the guide's Derived/Test/ToyasCard.lean, 'card_holds'). Laid BY PROGRAM, IN A SANDBOX (cutbox-door.mjs). By AI agents, Wed Nov 11 2026. No macro, syntax, notation, axiom, sorry.
-/
import Derived.Test.YtgfoliedmhgpnaaGreatDoorRows
import GoSem.ClaimSeven
namespace Go.Proofs.YtgfoliedmhgpnaaGreatDoor
namespace Rows

/-- THE TIED CARD OF 'docstorelaw48.ShardkeyContains'. -/
def shardkeyContainsCard : Claim7 := { stood := { row := shardkeyContainsRow, standIns := [], harness := (true, "eff37268da3af89082cb77fd34a4f5be10c7302cba2f9b652de5fd85e78b2b77"), looks := false }, kinds := [], alts := [], laidByText := true, laidKinds := [.data, .data, .pinned], laidTests := true, laidLooks := .later }
def ShardkeyContainsCardSaid : Prop := Claim7.holds Tryz.pinned (.plain (OpenSpec.ofChange shardkeyContainsSpec)) shardkeyContainsCard

/-- THE TIED CARD OF 'docstorelaw50.RouterFound'. -/
def routerFoundCard : Claim7 := { stood := { row := routerFoundRow, standIns := [], harness := (true, "eff37268da3af89082cb77fd34a4f5be10c7302cba2f9b652de5fd85e78b2b77"), looks := false }, kinds := [], alts := [], laidByText := true, laidKinds := [.data, .data, .pinned], laidTests := true, laidLooks := .later }
def RouterFoundCardSaid : Prop := Claim7.holds Tryz.pinned (.plain (OpenSpec.ofChange routerFoundSpec)) routerFoundCard

/-- THE TIED CARD OF 'docstorelaw25.BoundsContain'. -/
def boundsContainCard : Claim7 := { stood := { row := boundsContainRow, standIns := [], harness := (true, "eff37268da3af89082cb77fd34a4f5be10c7302cba2f9b652de5fd85e78b2b77"), looks := false }, kinds := [], alts := [], laidByText := true, laidKinds := [.data, .data, .data, .data, .pinned], laidTests := true, laidLooks := .later }
def BoundsContainCardSaid : Prop := Claim7.holds Tryz.pinned (.plain (OpenSpec.ofChange boundsContainSpec)) boundsContainCard

/-- THE SECOND FORM's CARD OF 'docstorelaw48.ShardkeyContains'. -/
def shardkeyContainsUptoCard : Claim7 := { stood := { row := shardkeyContainsUptoRow, standIns := [], harness := (true, "eff37268da3af89082cb77fd34a4f5be10c7302cba2f9b652de5fd85e78b2b77"), looks := false }, kinds := [], alts := [], laidByText := true, laidKinds := [.data, .data, .pinned], laidTests := true, laidLooks := .later }
def ShardkeyContainsUptoCardSaid : Prop := Claim7.holds Tryz.pinned (.plain (OpenSpec.upto shardkeyContainsSpec)) shardkeyContainsUptoCard

/-- THE SECOND FORM's CARD OF 'docstorelaw50.RouterFound'. -/
def routerFoundUptoCard : Claim7 := { stood := { row := routerFoundUptoRow, standIns := [], harness := (true, "eff37268da3af89082cb77fd34a4f5be10c7302cba2f9b652de5fd85e78b2b77"), looks := false }, kinds := [], alts := [], laidByText := true, laidKinds := [.data, .data, .pinned], laidTests := true, laidLooks := .later }
def RouterFoundUptoCardSaid : Prop := Claim7.holds Tryz.pinned (.plain (OpenSpec.upto routerFoundSpec)) routerFoundUptoCard

/-- THE SECOND FORM's CARD OF 'docstorelaw25.BoundsContain'. -/
def boundsContainUptoCard : Claim7 := { stood := { row := boundsContainUptoRow, standIns := [], harness := (true, "eff37268da3af89082cb77fd34a4f5be10c7302cba2f9b652de5fd85e78b2b77"), looks := false }, kinds := [], alts := [], laidByText := true, laidKinds := [.data, .data, .data, .data, .pinned], laidTests := true, laidLooks := .later }
def BoundsContainUptoCardSaid : Prop := Claim7.holds Tryz.pinned (.plain (OpenSpec.upto boundsContainSpec)) boundsContainUptoCard
end Rows
end Go.Proofs.YtgfoliedmhgpnaaGreatDoor
