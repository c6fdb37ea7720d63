/-
  DERIVED. GIVEN WITH THE SEED: THE CARDS: each row of YtlmmgjgkmbmgpaaGreatDoorRows.lean that lists a variable, with what it lists TIED to the program's text (the seventh form; the later family's looks); each row that meets fmt, with fmt's text TOLD by the authors' own Lean function (tested against real Go, not proved from fmt's source: count such statements apart). THE CARD IS WHAT COUNTS. Prove the row's statement (the work); the ties are given (YtlmmgjgkmbmgpaaGreatDoorTie.lean); close each card by the builder's one call (the guide's Derived/Test/ToyasCard.lean, 'card_holds'). Laid BY PROGRAM, IN A SANDBOX (cutbox-door.mjs). By AI agents, Wed Nov 11 2026. No macro, syntax, notation, axiom, sorry.
-/
import Derived.Test.YtlmmgjgkmbmgpaaGreatDoorRows
import GoSem.ClaimSeven
namespace Go.Proofs.YtlmmgjgkmbmgpaaGreatDoor
namespace Rows

/-- THE TIED CARD OF 'docstorelaw51.MigrateCarries'. -/
def migrateCarriesCard : Claim7 := { stood := { row := migrateCarriesRow, standIns := [], harness := (true, "5eb92f9e9b36b8eadbebde4cf3d0f215bcad4147f9c0798263e8c8085d50e81b"), looks := false }, kinds := [], alts := [], laidByText := true, laidKinds := [.data, .pinned], laidTests := true, laidLooks := .later }
def MigrateCarriesCardSaid : Prop := Claim7.holds Tryz.pinned (.plain (OpenSpec.ofChange migrateCarriesSpec)) migrateCarriesCard

/-- THE TIED CARD OF 'docstorelaw51.MigrateEnds'. -/
def migrateEndsCard : Claim7 := { stood := { row := migrateEndsRow, standIns := [], harness := (true, "5eb92f9e9b36b8eadbebde4cf3d0f215bcad4147f9c0798263e8c8085d50e81b"), looks := false }, kinds := [], alts := [], laidByText := true, laidKinds := [.data, .pinned], laidTests := true, laidLooks := .later }
def MigrateEndsCardSaid : Prop := Claim7.holds Tryz.pinned (.plain (OpenSpec.ofChange migrateEndsSpec)) migrateEndsCard

/-- THE TIED CARD OF 'docstorelaw51.MigrateRuns'. -/
def migrateRunsCard : Claim7 := { stood := { row := migrateRunsRow, standIns := [], harness := (true, "5eb92f9e9b36b8eadbebde4cf3d0f215bcad4147f9c0798263e8c8085d50e81b"), looks := false }, kinds := [], alts := [], laidByText := true, laidKinds := [.data, .pinned], laidTests := true, laidLooks := .later }
def MigrateRunsCardSaid : Prop := Claim7.holds Tryz.pinned (.plain (OpenSpec.ofChange migrateRunsSpec)) migrateRunsCard

/-- THE TIED CARD OF 'docstorelaw48.ShardkeyForms'. -/
def shardkeyFormsCard : Claim7 := { stood := { row := shardkeyFormsRow, standIns := [], harness := (true, "5eb92f9e9b36b8eadbebde4cf3d0f215bcad4147f9c0798263e8c8085d50e81b"), looks := false }, kinds := [], alts := [], laidByText := true, laidKinds := [.data, .pinned], laidTests := true, laidLooks := .later }
def ShardkeyFormsCardSaid : Prop := Claim7.holds Tryz.pinned (.plain (OpenSpec.ofChange shardkeyFormsSpec)) shardkeyFormsCard

/-- THE SECOND FORM's CARD OF 'docstorelaw51.MigrateCarries'. -/
def migrateCarriesUptoCard : Claim7 := { stood := { row := migrateCarriesUptoRow, standIns := [], harness := (true, "5eb92f9e9b36b8eadbebde4cf3d0f215bcad4147f9c0798263e8c8085d50e81b"), looks := false }, kinds := [], alts := [], laidByText := true, laidKinds := [.data, .pinned], laidTests := true, laidLooks := .later }
def MigrateCarriesUptoCardSaid : Prop := Claim7.holds Tryz.pinned (.plain (OpenSpec.upto migrateCarriesSpec)) migrateCarriesUptoCard

/-- THE SECOND FORM's CARD OF 'docstorelaw51.MigrateEnds'. -/
def migrateEndsUptoCard : Claim7 := { stood := { row := migrateEndsUptoRow, standIns := [], harness := (true, "5eb92f9e9b36b8eadbebde4cf3d0f215bcad4147f9c0798263e8c8085d50e81b"), looks := false }, kinds := [], alts := [], laidByText := true, laidKinds := [.data, .pinned], laidTests := true, laidLooks := .later }
def MigrateEndsUptoCardSaid : Prop := Claim7.holds Tryz.pinned (.plain (OpenSpec.upto migrateEndsSpec)) migrateEndsUptoCard

/-- THE SECOND FORM's CARD OF 'docstorelaw51.MigrateRuns'. -/
def migrateRunsUptoCard : Claim7 := { stood := { row := migrateRunsUptoRow, standIns := [], harness := (true, "5eb92f9e9b36b8eadbebde4cf3d0f215bcad4147f9c0798263e8c8085d50e81b"), looks := false }, kinds := [], alts := [], laidByText := true, laidKinds := [.data, .pinned], laidTests := true, laidLooks := .later }
def MigrateRunsUptoCardSaid : Prop := Claim7.holds Tryz.pinned (.plain (OpenSpec.upto migrateRunsSpec)) migrateRunsUptoCard

/-- THE SECOND FORM's CARD OF 'docstorelaw48.ShardkeyForms'. -/
def shardkeyFormsUptoCard : Claim7 := { stood := { row := shardkeyFormsUptoRow, standIns := [], harness := (true, "5eb92f9e9b36b8eadbebde4cf3d0f215bcad4147f9c0798263e8c8085d50e81b"), looks := false }, kinds := [], alts := [], laidByText := true, laidKinds := [.data, .pinned], laidTests := true, laidLooks := .later }
def ShardkeyFormsUptoCardSaid : Prop := Claim7.holds Tryz.pinned (.plain (OpenSpec.upto shardkeyFormsSpec)) shardkeyFormsUptoCard
end Rows
end Go.Proofs.YtlmmgjgkmbmgpaaGreatDoor
