/-
  DERIVED. GIVEN WITH THE SEED: THE CARDS: each row of YtfkapannahcjiaaGreatDoorRows.lean that lists a variable, with what it lists TIED to the program's text (the seventh form; the later family's looks); each row that meets fmt, with fmt's text TOLD by the authors' own Lean function (tested against real Go, not proved from fmt's source: count such statements apart). THE CARD IS WHAT COUNTS. Prove the row's statement (the work); the ties are given (YtfkapannahcjiaaGreatDoorTie.lean); close each card by the builder's one call (the guide's Derived/Test/ToyasCard.lean, 'card_holds'). Laid BY PROGRAM, IN A SANDBOX (cutbox-door.mjs). By AI agents, Wed Nov 11 2026. No macro, syntax, notation, axiom, sorry.
-/
import Derived.Test.YtfkapannahcjiaaGreatDoorRows
import GoSem.ClaimSeven
namespace Go.Proofs.YtfkapannahcjiaaGreatDoor
namespace Rows

/-- THE TIED CARD OF 'docstorelaw48.ShardkeyRanges'. -/
def shardkeyRangesCard : Claim7 := { stood := { row := shardkeyRangesRow, standIns := [], harness := (true, "345cd15d0679468bfcc0800547ced3abb7e32dd684f8b1d277fdee01cb071eb0"), looks := false }, kinds := [], alts := [], laidByText := true, laidKinds := [.data, .pinned], laidTests := true, laidLooks := .later }
def ShardkeyRangesCardSaid : Prop := Claim7.holds Tryz.pinned (.plain (OpenSpec.ofChange shardkeyRangesSpec)) shardkeyRangesCard

/-- THE TIED CARD OF 'docstorelaw48.ShardkeyContains'. -/
def shardkeyContainsCard : Claim7 := { stood := { row := shardkeyContainsRow, standIns := [], harness := (true, "345cd15d0679468bfcc0800547ced3abb7e32dd684f8b1d277fdee01cb071eb0"), looks := false }, kinds := [], alts := [], laidByText := true, laidKinds := [.data, .data, .pinned], laidTests := true, laidLooks := .later }
def ShardkeyContainsCardSaid : Prop := Claim7.holds Tryz.pinned (.plain (OpenSpec.ofChange shardkeyContainsSpec)) shardkeyContainsCard

/-- THE TIED CARD OF 'docstorelaw48.ShardkeyApart'. -/
def shardkeyApartCard : Claim7 := { stood := { row := shardkeyApartRow, standIns := [], harness := (true, "345cd15d0679468bfcc0800547ced3abb7e32dd684f8b1d277fdee01cb071eb0"), looks := false }, kinds := [], alts := [], laidByText := true, laidKinds := [.data, .pinned], laidTests := true, laidLooks := .later }
def ShardkeyApartCardSaid : Prop := Claim7.holds Tryz.pinned (.plain (OpenSpec.ofChange shardkeyApartSpec)) shardkeyApartCard

/-- THE SECOND FORM's CARD OF 'docstorelaw48.ShardkeyRanges'. -/
def shardkeyRangesUptoCard : Claim7 := { stood := { row := shardkeyRangesUptoRow, standIns := [], harness := (true, "345cd15d0679468bfcc0800547ced3abb7e32dd684f8b1d277fdee01cb071eb0"), looks := false }, kinds := [], alts := [], laidByText := true, laidKinds := [.data, .pinned], laidTests := true, laidLooks := .later }
def ShardkeyRangesUptoCardSaid : Prop := Claim7.holds Tryz.pinned (.plain (OpenSpec.upto shardkeyRangesSpec)) shardkeyRangesUptoCard

/-- THE SECOND FORM's CARD OF 'docstorelaw48.ShardkeyContains'. -/
def shardkeyContainsUptoCard : Claim7 := { stood := { row := shardkeyContainsUptoRow, standIns := [], harness := (true, "345cd15d0679468bfcc0800547ced3abb7e32dd684f8b1d277fdee01cb071eb0"), looks := false }, kinds := [], alts := [], laidByText := true, laidKinds := [.data, .data, .pinned], laidTests := true, laidLooks := .later }
def ShardkeyContainsUptoCardSaid : Prop := Claim7.holds Tryz.pinned (.plain (OpenSpec.upto shardkeyContainsSpec)) shardkeyContainsUptoCard

/-- THE SECOND FORM's CARD OF 'docstorelaw48.ShardkeyApart'. -/
def shardkeyApartUptoCard : Claim7 := { stood := { row := shardkeyApartUptoRow, standIns := [], harness := (true, "345cd15d0679468bfcc0800547ced3abb7e32dd684f8b1d277fdee01cb071eb0"), looks := false }, kinds := [], alts := [], laidByText := true, laidKinds := [.data, .pinned], laidTests := true, laidLooks := .later }
def ShardkeyApartUptoCardSaid : Prop := Claim7.holds Tryz.pinned (.plain (OpenSpec.upto shardkeyApartSpec)) shardkeyApartUptoCard
end Rows
end Go.Proofs.YtfkapannahcjiaaGreatDoor
