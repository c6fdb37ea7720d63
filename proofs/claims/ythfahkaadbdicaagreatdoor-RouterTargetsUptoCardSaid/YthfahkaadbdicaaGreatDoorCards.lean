/-
  DERIVED. GIVEN WITH THE SEED: THE CARDS: each row of YthfahkaadbdicaaGreatDoorRows.lean that lists a variable, with what it lists TIED to the program's text (the seventh form; the later family's looks); each row that meets fmt, with fmt's text TOLD by the authors' own Lean function (tested against real Go, not proved from fmt's source: count such statements apart). THE CARD IS WHAT COUNTS. Prove the row's statement (the work); the ties are given (YthfahkaadbdicaaGreatDoorTie.lean); close each card by the builder's one call (the guide's Derived/Test/ToyasCard.lean, 'card_holds'). Laid BY PROGRAM, IN A SANDBOX (cutbox-door.mjs). By AI agents, Wed Nov 11 2026. No macro, syntax, notation, axiom, sorry.
-/
import Derived.Test.YthfahkaadbdicaaGreatDoorRows
import GoSem.ClaimSeven
namespace Go.Proofs.YthfahkaadbdicaaGreatDoor
namespace Rows

/-- THE TIED CARD OF 'docstorelaw48.ShardkeyContains'. -/
def shardkeyContainsCard : Claim7 := { stood := { row := shardkeyContainsRow, standIns := [], harness := (true, "b2f819cff66ea0f01c1a802b860539f4bc237fe2ca9dbc1adb911771add71f47"), looks := false }, kinds := [], alts := [], laidByText := true, laidKinds := [.data, .data, .pinned], laidTests := true, laidLooks := .later }
def ShardkeyContainsCardSaid : Prop := Claim7.holds Tryz.pinned (.plain (OpenSpec.ofChange shardkeyContainsSpec)) shardkeyContainsCard

/-- THE TIED CARD OF 'docstorelaw50.RouterTargets'. -/
def routerTargetsCard : Claim7 := { stood := { row := routerTargetsRow, standIns := [], harness := (true, "b2f819cff66ea0f01c1a802b860539f4bc237fe2ca9dbc1adb911771add71f47"), looks := false }, kinds := [], alts := [], laidByText := true, laidKinds := [.data, .pinned], laidTests := true, laidLooks := .later }
def RouterTargetsCardSaid : Prop := Claim7.holds Tryz.pinned (.plain (OpenSpec.ofChange routerTargetsSpec)) routerTargetsCard

/-- THE TIED CARD OF 'docstorelaw50.RouterFound'. -/
def routerFoundCard : Claim7 := { stood := { row := routerFoundRow, standIns := [], harness := (true, "b2f819cff66ea0f01c1a802b860539f4bc237fe2ca9dbc1adb911771add71f47"), looks := false }, kinds := [], alts := [], laidByText := true, laidKinds := [.data, .data, .pinned], laidTests := true, laidLooks := .later }
def RouterFoundCardSaid : Prop := Claim7.holds Tryz.pinned (.plain (OpenSpec.ofChange routerFoundSpec)) routerFoundCard

/-- THE SECOND FORM's CARD OF 'docstorelaw48.ShardkeyContains'. -/
def shardkeyContainsUptoCard : Claim7 := { stood := { row := shardkeyContainsUptoRow, standIns := [], harness := (true, "b2f819cff66ea0f01c1a802b860539f4bc237fe2ca9dbc1adb911771add71f47"), looks := false }, kinds := [], alts := [], laidByText := true, laidKinds := [.data, .data, .pinned], laidTests := true, laidLooks := .later }
def ShardkeyContainsUptoCardSaid : Prop := Claim7.holds Tryz.pinned (.plain (OpenSpec.upto shardkeyContainsSpec)) shardkeyContainsUptoCard

/-- THE SECOND FORM's CARD OF 'docstorelaw50.RouterTargets'. -/
def routerTargetsUptoCard : Claim7 := { stood := { row := routerTargetsUptoRow, standIns := [], harness := (true, "b2f819cff66ea0f01c1a802b860539f4bc237fe2ca9dbc1adb911771add71f47"), looks := false }, kinds := [], alts := [], laidByText := true, laidKinds := [.data, .pinned], laidTests := true, laidLooks := .later }
def RouterTargetsUptoCardSaid : Prop := Claim7.holds Tryz.pinned (.plain (OpenSpec.upto routerTargetsSpec)) routerTargetsUptoCard

/-- THE SECOND FORM's CARD OF 'docstorelaw50.RouterFound'. -/
def routerFoundUptoCard : Claim7 := { stood := { row := routerFoundUptoRow, standIns := [], harness := (true, "b2f819cff66ea0f01c1a802b860539f4bc237fe2ca9dbc1adb911771add71f47"), looks := false }, kinds := [], alts := [], laidByText := true, laidKinds := [.data, .data, .pinned], laidTests := true, laidLooks := .later }
def RouterFoundUptoCardSaid : Prop := Claim7.holds Tryz.pinned (.plain (OpenSpec.upto routerFoundSpec)) routerFoundUptoCard
end Rows
end Go.Proofs.YthfahkaadbdicaaGreatDoor
