/-
  DERIVED. GIVEN WITH THE SEED: THE CARDS: each row of YtgcklgkhdokchaaDoorRows.lean that lists a variable, with what it lists TIED to the program's text (the seventh form; the later family's looks); each row that meets fmt, with fmt's text TOLD by the authors' own Lean function (tested against real Go, not proved from fmt's source: count such statements apart). THE CARD IS WHAT COUNTS. Prove the row's statement (the work); the ties are given (YtgcklgkhdokchaaDoorTie.lean); close each card by the builder's one call (the guide's Derived/Test/ToyasCard.lean, 'card_holds'). Laid BY PROGRAM, IN A SANDBOX (cutbox-door.mjs). By AI agents, Wed Nov 11 2026. No macro, syntax, notation, axiom, sorry.
-/
import Derived.Test.YtgcklgkhdokchaaDoorRows
import GoSem.ClaimSeven
namespace Go.Proofs.YtgcklgkhdokchaaDoor
namespace Rows

/-- THE TIED CARD OF 'docstorelaw49.ChunksNew'. -/
def chunksNewCard : Claim7 := { stood := { row := chunksNewRow, standIns := [], harness := (true, "26cecd255aa1dd2bd958ac0df069feb04f65b0c92daacadaef9f66db298b1ca6"), looks := false }, kinds := [], alts := [], laidByText := true, laidKinds := [.data, .pinned], laidTests := true, laidLooks := .later }
def ChunksNewCardSaid : Prop := Claim7.holds Tryd.pinned (.plain (OpenSpec.ofChange chunksNewSpec)) chunksNewCard

/-- THE TIED CARD OF 'docstorelaw49.ChunksMiddles'. -/
def chunksMiddlesCard : Claim7 := { stood := { row := chunksMiddlesRow, standIns := [], harness := (true, "26cecd255aa1dd2bd958ac0df069feb04f65b0c92daacadaef9f66db298b1ca6"), looks := false }, kinds := [], alts := [], laidByText := true, laidKinds := [.data, .pinned], laidTests := true, laidLooks := .later }
def ChunksMiddlesCardSaid : Prop := Claim7.holds Tryd.pinned (.plain (OpenSpec.ofChange chunksMiddlesSpec)) chunksMiddlesCard

/-- THE TIED CARD OF 'docstorelaw49.ChunksBack'. -/
def chunksBackCard : Claim7 := { stood := { row := chunksBackRow, standIns := [], harness := (true, "26cecd255aa1dd2bd958ac0df069feb04f65b0c92daacadaef9f66db298b1ca6"), looks := false }, kinds := [], alts := [], laidByText := true, laidKinds := [.data, .pinned], laidTests := true, laidLooks := .later }
def ChunksBackCardSaid : Prop := Claim7.holds Tryd.pinned (.plain (OpenSpec.ofChange chunksBackSpec)) chunksBackCard

/-- THE TIED CARD OF 'docstorelaw49.ChunksChanges'. -/
def chunksChangesCard : Claim7 := { stood := { row := chunksChangesRow, standIns := [], harness := (true, "26cecd255aa1dd2bd958ac0df069feb04f65b0c92daacadaef9f66db298b1ca6"), looks := false }, kinds := [], alts := [], laidByText := true, laidKinds := [.data, .pinned], laidTests := true, laidLooks := .later }
def ChunksChangesCardSaid : Prop := Claim7.holds Tryd.pinned (.plain (OpenSpec.ofChange chunksChangesSpec)) chunksChangesCard

/-- THE TIED CARD OF 'docstorelaw49.ChunksKeeps'. -/
def chunksKeepsCard : Claim7 := { stood := { row := chunksKeepsRow, standIns := [], harness := (true, "26cecd255aa1dd2bd958ac0df069feb04f65b0c92daacadaef9f66db298b1ca6"), looks := false }, kinds := [], alts := [], laidByText := true, laidKinds := [.data, .pinned], laidTests := true, laidLooks := .later }
def ChunksKeepsCardSaid : Prop := Claim7.holds Tryd.pinned (.plain (OpenSpec.ofChange chunksKeepsSpec)) chunksKeepsCard

/-- THE SECOND FORM's CARD OF 'docstorelaw49.ChunksNew'. -/
def chunksNewUptoCard : Claim7 := { stood := { row := chunksNewUptoRow, standIns := [], harness := (true, "26cecd255aa1dd2bd958ac0df069feb04f65b0c92daacadaef9f66db298b1ca6"), looks := false }, kinds := [], alts := [], laidByText := true, laidKinds := [.data, .pinned], laidTests := true, laidLooks := .later }
def ChunksNewUptoCardSaid : Prop := Claim7.holds Tryd.pinned (.plain (OpenSpec.upto chunksNewSpec)) chunksNewUptoCard

/-- THE SECOND FORM's CARD OF 'docstorelaw49.ChunksMiddles'. -/
def chunksMiddlesUptoCard : Claim7 := { stood := { row := chunksMiddlesUptoRow, standIns := [], harness := (true, "26cecd255aa1dd2bd958ac0df069feb04f65b0c92daacadaef9f66db298b1ca6"), looks := false }, kinds := [], alts := [], laidByText := true, laidKinds := [.data, .pinned], laidTests := true, laidLooks := .later }
def ChunksMiddlesUptoCardSaid : Prop := Claim7.holds Tryd.pinned (.plain (OpenSpec.upto chunksMiddlesSpec)) chunksMiddlesUptoCard

/-- THE SECOND FORM's CARD OF 'docstorelaw49.ChunksBack'. -/
def chunksBackUptoCard : Claim7 := { stood := { row := chunksBackUptoRow, standIns := [], harness := (true, "26cecd255aa1dd2bd958ac0df069feb04f65b0c92daacadaef9f66db298b1ca6"), looks := false }, kinds := [], alts := [], laidByText := true, laidKinds := [.data, .pinned], laidTests := true, laidLooks := .later }
def ChunksBackUptoCardSaid : Prop := Claim7.holds Tryd.pinned (.plain (OpenSpec.upto chunksBackSpec)) chunksBackUptoCard

/-- THE SECOND FORM's CARD OF 'docstorelaw49.ChunksChanges'. -/
def chunksChangesUptoCard : Claim7 := { stood := { row := chunksChangesUptoRow, standIns := [], harness := (true, "26cecd255aa1dd2bd958ac0df069feb04f65b0c92daacadaef9f66db298b1ca6"), looks := false }, kinds := [], alts := [], laidByText := true, laidKinds := [.data, .pinned], laidTests := true, laidLooks := .later }
def ChunksChangesUptoCardSaid : Prop := Claim7.holds Tryd.pinned (.plain (OpenSpec.upto chunksChangesSpec)) chunksChangesUptoCard

/-- THE SECOND FORM's CARD OF 'docstorelaw49.ChunksKeeps'. -/
def chunksKeepsUptoCard : Claim7 := { stood := { row := chunksKeepsUptoRow, standIns := [], harness := (true, "26cecd255aa1dd2bd958ac0df069feb04f65b0c92daacadaef9f66db298b1ca6"), looks := false }, kinds := [], alts := [], laidByText := true, laidKinds := [.data, .pinned], laidTests := true, laidLooks := .later }
def ChunksKeepsUptoCardSaid : Prop := Claim7.holds Tryd.pinned (.plain (OpenSpec.upto chunksKeepsSpec)) chunksKeepsUptoCard
end Rows
end Go.Proofs.YtgcklgkhdokchaaDoor
