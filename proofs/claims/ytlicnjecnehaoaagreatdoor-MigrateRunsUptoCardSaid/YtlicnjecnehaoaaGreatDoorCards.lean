/-
  DERIVED. GIVEN WITH THE SEED: THE CARDS: each row of YtlicnjecnehaoaaGreatDoorRows.lean that lists a variable, with what it lists TIED to the program's text (the seventh form; the later family's looks); each row that meets fmt, with fmt's text TOLD by the authors' own Lean function (tested against real Go, not proved from fmt's source: count such statements apart). THE CARD IS WHAT COUNTS. Prove the row's statement (the work); the ties are given (YtlicnjecnehaoaaGreatDoorTie.lean); close each card by the builder's one call (the guide's Derived/Test/ToyasCard.lean, 'card_holds'). Laid BY PROGRAM, IN A SANDBOX (cutbox-door.mjs). By AI agents, Wed Nov 11 2026. No macro, syntax, notation, axiom, sorry.
-/
import Derived.Test.YtlicnjecnehaoaaGreatDoorRows
import GoSem.ClaimSeven
namespace Go.Proofs.YtlicnjecnehaoaaGreatDoor
namespace Rows

/-- THE TIED CARD OF 'docstorelaw51.MigrateRuns'. -/
def migrateRunsCard : Claim7 := { stood := { row := migrateRunsRow, standIns := [], harness := (true, "42c1040547a654844c10cecefc0e20cad72b5f4a47008fae5dd5e25bcd1c8ef4"), looks := false }, kinds := [], alts := [], laidByText := true, laidKinds := [.data, .pinned], laidTests := true, laidLooks := .later }
def MigrateRunsCardSaid : Prop := Claim7.holds Tryz.pinned (.plain (OpenSpec.ofChange migrateRunsSpec)) migrateRunsCard

/-- THE SECOND FORM's CARD OF 'docstorelaw51.MigrateRuns'. -/
def migrateRunsUptoCard : Claim7 := { stood := { row := migrateRunsUptoRow, standIns := [], harness := (true, "42c1040547a654844c10cecefc0e20cad72b5f4a47008fae5dd5e25bcd1c8ef4"), looks := false }, kinds := [], alts := [], laidByText := true, laidKinds := [.data, .pinned], laidTests := true, laidLooks := .later }
def MigrateRunsUptoCardSaid : Prop := Claim7.holds Tryz.pinned (.plain (OpenSpec.upto migrateRunsSpec)) migrateRunsUptoCard
end Rows
end Go.Proofs.YtlicnjecnehaoaaGreatDoor
