/-
  DERIVED. GIVEN WITH THE SEED: THE CARDS: each row of YtdmabhbhlnpkgaaDoorRows.lean that lists a variable, with what it lists TIED to the program's text (the seventh form; the later family's looks); each row that meets fmt, with fmt's text TOLD by the authors' own Lean function (tested against real Go, not proved from fmt's source: count such statements apart). THE CARD IS WHAT COUNTS. Prove the row's statement (the work); the ties are given (YtdmabhbhlnpkgaaDoorTie.lean); close each card by the builder's one call (the guide's Derived/Test/ToyasCard.lean, 'card_holds'). Laid BY PROGRAM, IN A SANDBOX (cutbox-door.mjs). By AI agents, Wed Nov 11 2026. No macro, syntax, notation, axiom, sorry.
-/
import Derived.Test.YtdmabhbhlnpkgaaDoorRows
import GoSem.ClaimSeven
namespace Go.Proofs.YtdmabhbhlnpkgaaDoor
namespace Rows

/-- THE TIED CARD OF 'docstorelaw24.IntervalNormal'. -/
def intervalNormalCard : Claim7 := { stood := { row := intervalNormalRow, standIns := [], harness := (true, "87cb7ca0f2df7e342740e20986d752edf5c3e99baf4577ef5374746f9367e1e3"), looks := false }, kinds := [], alts := [], laidByText := true, laidKinds := [.data, .pinned], laidTests := true, laidLooks := .later }
def IntervalNormalCardSaid : Prop := Claim7.holds Tryd.pinned (.plain (OpenSpec.ofChange intervalNormalSpec)) intervalNormalCard

/-- THE TIED CARD OF 'docstorelaw24.IntervalHas'. -/
def intervalHasCard : Claim7 := { stood := { row := intervalHasRow, standIns := [], harness := (true, "87cb7ca0f2df7e342740e20986d752edf5c3e99baf4577ef5374746f9367e1e3"), looks := false }, kinds := [], alts := [], laidByText := true, laidKinds := [.data, .pinned], laidTests := true, laidLooks := .later }
def IntervalHasCardSaid : Prop := Claim7.holds Tryd.pinned (.plain (OpenSpec.ofChange intervalHasSpec)) intervalHasCard

/-- THE TIED CARD OF 'docstorelaw24.IntervalPoints'. -/
def intervalPointsCard : Claim7 := { stood := { row := intervalPointsRow, standIns := [], harness := (true, "87cb7ca0f2df7e342740e20986d752edf5c3e99baf4577ef5374746f9367e1e3"), looks := false }, kinds := [], alts := [], laidByText := true, laidKinds := [.data, .pinned], laidTests := true, laidLooks := .later }
def IntervalPointsCardSaid : Prop := Claim7.holds Tryd.pinned (.plain (OpenSpec.ofChange intervalPointsSpec)) intervalPointsCard

/-- THE TIED CARD OF 'docstorelaw24.IntervalApart'. -/
def intervalApartCard : Claim7 := { stood := { row := intervalApartRow, standIns := [], harness := (true, "87cb7ca0f2df7e342740e20986d752edf5c3e99baf4577ef5374746f9367e1e3"), looks := false }, kinds := [], alts := [], laidByText := true, laidKinds := [.data, .pinned], laidTests := true, laidLooks := .later }
def IntervalApartCardSaid : Prop := Claim7.holds Tryd.pinned (.plain (OpenSpec.ofChange intervalApartSpec)) intervalApartCard

/-- THE TIED CARD OF 'docstorelaw24.IntervalMeets'. -/
def intervalMeetsCard : Claim7 := { stood := { row := intervalMeetsRow, standIns := [], harness := (true, "87cb7ca0f2df7e342740e20986d752edf5c3e99baf4577ef5374746f9367e1e3"), looks := false }, kinds := [], alts := [], laidByText := true, laidKinds := [.data, .pinned], laidTests := true, laidLooks := .later }
def IntervalMeetsCardSaid : Prop := Claim7.holds Tryd.pinned (.plain (OpenSpec.ofChange intervalMeetsSpec)) intervalMeetsCard

/-- THE TIED CARD OF 'docstorelaw24.IntervalMembers'. -/
def intervalMembersCard : Claim7 := { stood := { row := intervalMembersRow, standIns := [], harness := (true, "87cb7ca0f2df7e342740e20986d752edf5c3e99baf4577ef5374746f9367e1e3"), looks := false }, kinds := [], alts := [], laidByText := true, laidKinds := [.data, .pinned], laidTests := true, laidLooks := .later }
def IntervalMembersCardSaid : Prop := Claim7.holds Tryd.pinned (.plain (OpenSpec.ofChange intervalMembersSpec)) intervalMembersCard

/-- THE TIED CARD OF 'docstorelaw24.IntervalLaws'. -/
def intervalLawsCard : Claim7 := { stood := { row := intervalLawsRow, standIns := [], harness := (true, "87cb7ca0f2df7e342740e20986d752edf5c3e99baf4577ef5374746f9367e1e3"), looks := false }, kinds := [], alts := [], laidByText := true, laidKinds := [.data, .pinned], laidTests := true, laidLooks := .later }
def IntervalLawsCardSaid : Prop := Claim7.holds Tryd.pinned (.plain (OpenSpec.ofChange intervalLawsSpec)) intervalLawsCard

/-- THE SECOND FORM's CARD OF 'docstorelaw24.IntervalNormal'. -/
def intervalNormalUptoCard : Claim7 := { stood := { row := intervalNormalUptoRow, standIns := [], harness := (true, "87cb7ca0f2df7e342740e20986d752edf5c3e99baf4577ef5374746f9367e1e3"), looks := false }, kinds := [], alts := [], laidByText := true, laidKinds := [.data, .pinned], laidTests := true, laidLooks := .later }
def IntervalNormalUptoCardSaid : Prop := Claim7.holds Tryd.pinned (.plain (OpenSpec.upto intervalNormalSpec)) intervalNormalUptoCard

/-- THE SECOND FORM's CARD OF 'docstorelaw24.IntervalHas'. -/
def intervalHasUptoCard : Claim7 := { stood := { row := intervalHasUptoRow, standIns := [], harness := (true, "87cb7ca0f2df7e342740e20986d752edf5c3e99baf4577ef5374746f9367e1e3"), looks := false }, kinds := [], alts := [], laidByText := true, laidKinds := [.data, .pinned], laidTests := true, laidLooks := .later }
def IntervalHasUptoCardSaid : Prop := Claim7.holds Tryd.pinned (.plain (OpenSpec.upto intervalHasSpec)) intervalHasUptoCard

/-- THE SECOND FORM's CARD OF 'docstorelaw24.IntervalPoints'. -/
def intervalPointsUptoCard : Claim7 := { stood := { row := intervalPointsUptoRow, standIns := [], harness := (true, "87cb7ca0f2df7e342740e20986d752edf5c3e99baf4577ef5374746f9367e1e3"), looks := false }, kinds := [], alts := [], laidByText := true, laidKinds := [.data, .pinned], laidTests := true, laidLooks := .later }
def IntervalPointsUptoCardSaid : Prop := Claim7.holds Tryd.pinned (.plain (OpenSpec.upto intervalPointsSpec)) intervalPointsUptoCard

/-- THE SECOND FORM's CARD OF 'docstorelaw24.IntervalApart'. -/
def intervalApartUptoCard : Claim7 := { stood := { row := intervalApartUptoRow, standIns := [], harness := (true, "87cb7ca0f2df7e342740e20986d752edf5c3e99baf4577ef5374746f9367e1e3"), looks := false }, kinds := [], alts := [], laidByText := true, laidKinds := [.data, .pinned], laidTests := true, laidLooks := .later }
def IntervalApartUptoCardSaid : Prop := Claim7.holds Tryd.pinned (.plain (OpenSpec.upto intervalApartSpec)) intervalApartUptoCard

/-- THE SECOND FORM's CARD OF 'docstorelaw24.IntervalMeets'. -/
def intervalMeetsUptoCard : Claim7 := { stood := { row := intervalMeetsUptoRow, standIns := [], harness := (true, "87cb7ca0f2df7e342740e20986d752edf5c3e99baf4577ef5374746f9367e1e3"), looks := false }, kinds := [], alts := [], laidByText := true, laidKinds := [.data, .pinned], laidTests := true, laidLooks := .later }
def IntervalMeetsUptoCardSaid : Prop := Claim7.holds Tryd.pinned (.plain (OpenSpec.upto intervalMeetsSpec)) intervalMeetsUptoCard

/-- THE SECOND FORM's CARD OF 'docstorelaw24.IntervalMembers'. -/
def intervalMembersUptoCard : Claim7 := { stood := { row := intervalMembersUptoRow, standIns := [], harness := (true, "87cb7ca0f2df7e342740e20986d752edf5c3e99baf4577ef5374746f9367e1e3"), looks := false }, kinds := [], alts := [], laidByText := true, laidKinds := [.data, .pinned], laidTests := true, laidLooks := .later }
def IntervalMembersUptoCardSaid : Prop := Claim7.holds Tryd.pinned (.plain (OpenSpec.upto intervalMembersSpec)) intervalMembersUptoCard

/-- THE SECOND FORM's CARD OF 'docstorelaw24.IntervalLaws'. -/
def intervalLawsUptoCard : Claim7 := { stood := { row := intervalLawsUptoRow, standIns := [], harness := (true, "87cb7ca0f2df7e342740e20986d752edf5c3e99baf4577ef5374746f9367e1e3"), looks := false }, kinds := [], alts := [], laidByText := true, laidKinds := [.data, .pinned], laidTests := true, laidLooks := .later }
def IntervalLawsUptoCardSaid : Prop := Claim7.holds Tryd.pinned (.plain (OpenSpec.upto intervalLawsSpec)) intervalLawsUptoCard
end Rows
end Go.Proofs.YtdmabhbhlnpkgaaDoor
