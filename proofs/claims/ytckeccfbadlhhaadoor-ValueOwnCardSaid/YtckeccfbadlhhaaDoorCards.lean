/-
  DERIVED. GIVEN WITH THE SEED: THE CARDS: each row of YtckeccfbadlhhaaDoorRows.lean that lists a variable, with what it lists TIED to the program's text (the seventh form; the later family's looks); each row that meets fmt, with fmt's text TOLD by the authors' own Lean function (tested against real Go, not proved from fmt's source: count such statements apart). THE CARD IS WHAT COUNTS. Prove the row's statement (the work); the ties are given (YtckeccfbadlhhaaDoorTie.lean); close each card by the builder's one call (the guide's Derived/Test/ToyasCard.lean, 'card_holds'). Laid BY PROGRAM, IN A SANDBOX (cutbox-door.mjs). By AI agents, Wed Nov 11 2026. No macro, syntax, notation, axiom, sorry.
-/
import Derived.Test.YtckeccfbadlhhaaDoorRows
import GoSem.ClaimSeven
namespace Go.Proofs.YtckeccfbadlhhaaDoor
namespace Rows

/-- THE TIED CARD OF 'docstorelaw01.ValueMeasures'. -/
def valueMeasuresCard : Claim7 := { stood := { row := valueMeasuresRow, standIns := [], harness := (true, "c71b76d409868a1ba4506d5906c74ef88179a46c9753daf4373275cd941bc98d"), looks := false }, kinds := [], alts := [], laidByText := true, laidKinds := [.data, .pinned], laidTests := true, laidLooks := .later }
def ValueMeasuresCardSaid : Prop := Claim7.holds Tryd.pinned (.plain (OpenSpec.ofChange valueMeasuresSpec)) valueMeasuresCard

/-- THE TIED CARD OF 'docstorelaw01.ValueCompares'. -/
def valueComparesCard : Claim7 := { stood := { row := valueComparesRow, standIns := [], harness := (true, "c71b76d409868a1ba4506d5906c74ef88179a46c9753daf4373275cd941bc98d"), looks := false }, kinds := [], alts := [], laidByText := true, laidKinds := [.data, .pinned], laidTests := true, laidLooks := .later }
def ValueComparesCardSaid : Prop := Claim7.holds Tryd.pinned (.plain (OpenSpec.ofChange valueComparesSpec)) valueComparesCard

/-- THE TIED CARD OF 'docstorelaw01.ValueOrder'. -/
def valueOrderCard : Claim7 := { stood := { row := valueOrderRow, standIns := [], harness := (true, "c71b76d409868a1ba4506d5906c74ef88179a46c9753daf4373275cd941bc98d"), looks := false }, kinds := [], alts := [], laidByText := true, laidKinds := [.data, .pinned], laidTests := true, laidLooks := .later }
def ValueOrderCardSaid : Prop := Claim7.holds Tryd.pinned (.plain (OpenSpec.ofChange valueOrderSpec)) valueOrderCard

/-- THE TIED CARD OF 'docstorelaw01.ValueSorts'. -/
def valueSortsCard : Claim7 := { stood := { row := valueSortsRow, standIns := [], harness := (true, "c71b76d409868a1ba4506d5906c74ef88179a46c9753daf4373275cd941bc98d"), looks := false }, kinds := [], alts := [], laidByText := true, laidKinds := [.data, .pinned], laidTests := true, laidLooks := .later }
def ValueSortsCardSaid : Prop := Claim7.holds Tryd.pinned (.plain (OpenSpec.ofChange valueSortsSpec)) valueSortsCard

/-- THE TIED CARD OF 'docstorelaw01.ValueParts'. -/
def valuePartsCard : Claim7 := { stood := { row := valuePartsRow, standIns := [], harness := (true, "c71b76d409868a1ba4506d5906c74ef88179a46c9753daf4373275cd941bc98d"), looks := false }, kinds := [], alts := [], laidByText := true, laidKinds := [.data, .pinned], laidTests := true, laidLooks := .later }
def ValuePartsCardSaid : Prop := Claim7.holds Tryd.pinned (.plain (OpenSpec.ofChange valuePartsSpec)) valuePartsCard

/-- THE TIED CARD OF 'docstorelaw01.ValueFields'. -/
def valueFieldsCard : Claim7 := { stood := { row := valueFieldsRow, standIns := [], harness := (true, "c71b76d409868a1ba4506d5906c74ef88179a46c9753daf4373275cd941bc98d"), looks := false }, kinds := [], alts := [], laidByText := true, laidKinds := [.data, .pinned], laidTests := true, laidLooks := .later }
def ValueFieldsCardSaid : Prop := Claim7.holds Tryd.pinned (.plain (OpenSpec.ofChange valueFieldsSpec)) valueFieldsCard

/-- THE TIED CARD OF 'docstorelaw01.ValueSets'. -/
def valueSetsCard : Claim7 := { stood := { row := valueSetsRow, standIns := [], harness := (true, "c71b76d409868a1ba4506d5906c74ef88179a46c9753daf4373275cd941bc98d"), looks := false }, kinds := [], alts := [], laidByText := true, laidKinds := [.data, .pinned], laidTests := true, laidLooks := .later }
def ValueSetsCardSaid : Prop := Claim7.holds Tryd.pinned (.plain (OpenSpec.ofChange valueSetsSpec)) valueSetsCard

/-- THE TIED CARD OF 'docstorelaw01.ValueOwn'. -/
def valueOwnCard : Claim7 := { stood := { row := valueOwnRow, standIns := [], harness := (true, "c71b76d409868a1ba4506d5906c74ef88179a46c9753daf4373275cd941bc98d"), looks := false }, kinds := [], alts := [], laidByText := true, laidKinds := [.data, .pinned], laidTests := true, laidLooks := .later }
def ValueOwnCardSaid : Prop := Claim7.holds Tryd.pinned (.plain (OpenSpec.ofChange valueOwnSpec)) valueOwnCard

/-- THE SECOND FORM's CARD OF 'docstorelaw01.ValueMeasures'. -/
def valueMeasuresUptoCard : Claim7 := { stood := { row := valueMeasuresUptoRow, standIns := [], harness := (true, "c71b76d409868a1ba4506d5906c74ef88179a46c9753daf4373275cd941bc98d"), looks := false }, kinds := [], alts := [], laidByText := true, laidKinds := [.data, .pinned], laidTests := true, laidLooks := .later }
def ValueMeasuresUptoCardSaid : Prop := Claim7.holds Tryd.pinned (.plain (OpenSpec.upto valueMeasuresSpec)) valueMeasuresUptoCard

/-- THE SECOND FORM's CARD OF 'docstorelaw01.ValueCompares'. -/
def valueComparesUptoCard : Claim7 := { stood := { row := valueComparesUptoRow, standIns := [], harness := (true, "c71b76d409868a1ba4506d5906c74ef88179a46c9753daf4373275cd941bc98d"), looks := false }, kinds := [], alts := [], laidByText := true, laidKinds := [.data, .pinned], laidTests := true, laidLooks := .later }
def ValueComparesUptoCardSaid : Prop := Claim7.holds Tryd.pinned (.plain (OpenSpec.upto valueComparesSpec)) valueComparesUptoCard

/-- THE SECOND FORM's CARD OF 'docstorelaw01.ValueOrder'. -/
def valueOrderUptoCard : Claim7 := { stood := { row := valueOrderUptoRow, standIns := [], harness := (true, "c71b76d409868a1ba4506d5906c74ef88179a46c9753daf4373275cd941bc98d"), looks := false }, kinds := [], alts := [], laidByText := true, laidKinds := [.data, .pinned], laidTests := true, laidLooks := .later }
def ValueOrderUptoCardSaid : Prop := Claim7.holds Tryd.pinned (.plain (OpenSpec.upto valueOrderSpec)) valueOrderUptoCard

/-- THE SECOND FORM's CARD OF 'docstorelaw01.ValueSorts'. -/
def valueSortsUptoCard : Claim7 := { stood := { row := valueSortsUptoRow, standIns := [], harness := (true, "c71b76d409868a1ba4506d5906c74ef88179a46c9753daf4373275cd941bc98d"), looks := false }, kinds := [], alts := [], laidByText := true, laidKinds := [.data, .pinned], laidTests := true, laidLooks := .later }
def ValueSortsUptoCardSaid : Prop := Claim7.holds Tryd.pinned (.plain (OpenSpec.upto valueSortsSpec)) valueSortsUptoCard

/-- THE SECOND FORM's CARD OF 'docstorelaw01.ValueParts'. -/
def valuePartsUptoCard : Claim7 := { stood := { row := valuePartsUptoRow, standIns := [], harness := (true, "c71b76d409868a1ba4506d5906c74ef88179a46c9753daf4373275cd941bc98d"), looks := false }, kinds := [], alts := [], laidByText := true, laidKinds := [.data, .pinned], laidTests := true, laidLooks := .later }
def ValuePartsUptoCardSaid : Prop := Claim7.holds Tryd.pinned (.plain (OpenSpec.upto valuePartsSpec)) valuePartsUptoCard

/-- THE SECOND FORM's CARD OF 'docstorelaw01.ValueFields'. -/
def valueFieldsUptoCard : Claim7 := { stood := { row := valueFieldsUptoRow, standIns := [], harness := (true, "c71b76d409868a1ba4506d5906c74ef88179a46c9753daf4373275cd941bc98d"), looks := false }, kinds := [], alts := [], laidByText := true, laidKinds := [.data, .pinned], laidTests := true, laidLooks := .later }
def ValueFieldsUptoCardSaid : Prop := Claim7.holds Tryd.pinned (.plain (OpenSpec.upto valueFieldsSpec)) valueFieldsUptoCard

/-- THE SECOND FORM's CARD OF 'docstorelaw01.ValueSets'. -/
def valueSetsUptoCard : Claim7 := { stood := { row := valueSetsUptoRow, standIns := [], harness := (true, "c71b76d409868a1ba4506d5906c74ef88179a46c9753daf4373275cd941bc98d"), looks := false }, kinds := [], alts := [], laidByText := true, laidKinds := [.data, .pinned], laidTests := true, laidLooks := .later }
def ValueSetsUptoCardSaid : Prop := Claim7.holds Tryd.pinned (.plain (OpenSpec.upto valueSetsSpec)) valueSetsUptoCard

/-- THE SECOND FORM's CARD OF 'docstorelaw01.ValueOwn'. -/
def valueOwnUptoCard : Claim7 := { stood := { row := valueOwnUptoRow, standIns := [], harness := (true, "c71b76d409868a1ba4506d5906c74ef88179a46c9753daf4373275cd941bc98d"), looks := false }, kinds := [], alts := [], laidByText := true, laidKinds := [.data, .pinned], laidTests := true, laidLooks := .later }
def ValueOwnUptoCardSaid : Prop := Claim7.holds Tryd.pinned (.plain (OpenSpec.upto valueOwnSpec)) valueOwnUptoCard
end Rows
end Go.Proofs.YtckeccfbadlhhaaDoor
