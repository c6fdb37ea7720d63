/-
  DERIVED. GIVEN WITH THE SEED: THE CARDS: each row of YtblepmmibhphhaaGreatDoorRows.lean that lists a variable, with what it lists TIED to the program's text (the seventh form; the later family's looks); each row that meets fmt, with fmt's text TOLD by the authors' own Lean function (tested against real Go, not proved from fmt's source: count such statements apart). THE CARD IS WHAT COUNTS. Prove the row's statement (the work); the ties are given (YtblepmmibhphhaaGreatDoorTie.lean); close each card by the builder's one call (the guide's Derived/Test/ToyasCard.lean, 'card_holds'). Laid BY PROGRAM, IN A SANDBOX (cutbox-door.mjs). By AI agents, Wed Nov 11 2026. No macro, syntax, notation, axiom, sorry.
-/
import Derived.Test.YtblepmmibhphhaaGreatDoorRows
import GoSem.ClaimSeven
namespace Go.Proofs.YtblepmmibhphhaaGreatDoor
namespace Rows

/-- THE TIED CARD OF 'docstorelaw48.ShardkeyEncodes'. -/
def shardkeyEncodesCard : Claim7 := { stood := { row := shardkeyEncodesRow, standIns := [], harness := (true, "d760985c22148e55cd1a8abc7402baa4a725f89cf5395fb4c61866adb12a1757"), looks := false }, kinds := [], alts := [], laidByText := true, laidKinds := [.data, .pinned], laidTests := true, laidLooks := .later }
def ShardkeyEncodesCardSaid : Prop := Claim7.holds Tryz.pinned (.plain (OpenSpec.ofChange shardkeyEncodesSpec)) shardkeyEncodesCard

/-- THE TIED CARD OF 'docstorelaw48.ShardkeyOrder'. -/
def shardkeyOrderCard : Claim7 := { stood := { row := shardkeyOrderRow, standIns := [], harness := (true, "d760985c22148e55cd1a8abc7402baa4a725f89cf5395fb4c61866adb12a1757"), looks := false }, kinds := [], alts := [], laidByText := true, laidKinds := [.data, .pinned], laidTests := true, laidLooks := .later }
def ShardkeyOrderCardSaid : Prop := Claim7.holds Tryz.pinned (.plain (OpenSpec.ofChange shardkeyOrderSpec)) shardkeyOrderCard

/-- THE TIED CARD OF 'docstorelaw50.RouterOwn'. -/
def routerOwnCard : Claim7 := { stood := { row := routerOwnRow, standIns := [], harness := (true, "d760985c22148e55cd1a8abc7402baa4a725f89cf5395fb4c61866adb12a1757"), looks := false }, kinds := [], alts := [], laidByText := true, laidKinds := [.data, .pinned], laidTests := true, laidLooks := .later }
def RouterOwnCardSaid : Prop := Claim7.holds Tryz.pinned (.plain (OpenSpec.ofChange routerOwnSpec)) routerOwnCard

/-- THE TIED CARD OF 'docstorelaw50.RouterCheck'. -/
def routerCheckCard : Claim7 := { stood := { row := routerCheckRow, standIns := [], harness := (true, "d760985c22148e55cd1a8abc7402baa4a725f89cf5395fb4c61866adb12a1757"), looks := false }, kinds := [], alts := [], laidByText := true, laidKinds := [.data, .pinned], laidTests := true, laidLooks := .later }
def RouterCheckCardSaid : Prop := Claim7.holds Tryz.pinned (.plain (OpenSpec.ofChange routerCheckSpec)) routerCheckCard

/-- THE TIED CARD OF 'docstorelaw50.RouterOne'. -/
def routerOneCard : Claim7 := { stood := { row := routerOneRow, standIns := [], harness := (true, "d760985c22148e55cd1a8abc7402baa4a725f89cf5395fb4c61866adb12a1757"), looks := false }, kinds := [], alts := [], laidByText := true, laidKinds := [.data, .pinned], laidTests := true, laidLooks := .later }
def RouterOneCardSaid : Prop := Claim7.holds Tryz.pinned (.plain (OpenSpec.ofChange routerOneSpec)) routerOneCard

/-- THE TIED CARD OF 'docstorelaw50.RouterMoved'. -/
def routerMovedCard : Claim7 := { stood := { row := routerMovedRow, standIns := [], harness := (true, "d760985c22148e55cd1a8abc7402baa4a725f89cf5395fb4c61866adb12a1757"), looks := false }, kinds := [], alts := [], laidByText := true, laidKinds := [.data, .pinned], laidTests := true, laidLooks := .later }
def RouterMovedCardSaid : Prop := Claim7.holds Tryz.pinned (.plain (OpenSpec.ofChange routerMovedSpec)) routerMovedCard

/-- THE SECOND FORM's CARD OF 'docstorelaw48.ShardkeyEncodes'. -/
def shardkeyEncodesUptoCard : Claim7 := { stood := { row := shardkeyEncodesUptoRow, standIns := [], harness := (true, "d760985c22148e55cd1a8abc7402baa4a725f89cf5395fb4c61866adb12a1757"), looks := false }, kinds := [], alts := [], laidByText := true, laidKinds := [.data, .pinned], laidTests := true, laidLooks := .later }
def ShardkeyEncodesUptoCardSaid : Prop := Claim7.holds Tryz.pinned (.plain (OpenSpec.upto shardkeyEncodesSpec)) shardkeyEncodesUptoCard

/-- THE SECOND FORM's CARD OF 'docstorelaw48.ShardkeyOrder'. -/
def shardkeyOrderUptoCard : Claim7 := { stood := { row := shardkeyOrderUptoRow, standIns := [], harness := (true, "d760985c22148e55cd1a8abc7402baa4a725f89cf5395fb4c61866adb12a1757"), looks := false }, kinds := [], alts := [], laidByText := true, laidKinds := [.data, .pinned], laidTests := true, laidLooks := .later }
def ShardkeyOrderUptoCardSaid : Prop := Claim7.holds Tryz.pinned (.plain (OpenSpec.upto shardkeyOrderSpec)) shardkeyOrderUptoCard

/-- THE SECOND FORM's CARD OF 'docstorelaw50.RouterOwn'. -/
def routerOwnUptoCard : Claim7 := { stood := { row := routerOwnUptoRow, standIns := [], harness := (true, "d760985c22148e55cd1a8abc7402baa4a725f89cf5395fb4c61866adb12a1757"), looks := false }, kinds := [], alts := [], laidByText := true, laidKinds := [.data, .pinned], laidTests := true, laidLooks := .later }
def RouterOwnUptoCardSaid : Prop := Claim7.holds Tryz.pinned (.plain (OpenSpec.upto routerOwnSpec)) routerOwnUptoCard

/-- THE SECOND FORM's CARD OF 'docstorelaw50.RouterCheck'. -/
def routerCheckUptoCard : Claim7 := { stood := { row := routerCheckUptoRow, standIns := [], harness := (true, "d760985c22148e55cd1a8abc7402baa4a725f89cf5395fb4c61866adb12a1757"), looks := false }, kinds := [], alts := [], laidByText := true, laidKinds := [.data, .pinned], laidTests := true, laidLooks := .later }
def RouterCheckUptoCardSaid : Prop := Claim7.holds Tryz.pinned (.plain (OpenSpec.upto routerCheckSpec)) routerCheckUptoCard

/-- THE SECOND FORM's CARD OF 'docstorelaw50.RouterOne'. -/
def routerOneUptoCard : Claim7 := { stood := { row := routerOneUptoRow, standIns := [], harness := (true, "d760985c22148e55cd1a8abc7402baa4a725f89cf5395fb4c61866adb12a1757"), looks := false }, kinds := [], alts := [], laidByText := true, laidKinds := [.data, .pinned], laidTests := true, laidLooks := .later }
def RouterOneUptoCardSaid : Prop := Claim7.holds Tryz.pinned (.plain (OpenSpec.upto routerOneSpec)) routerOneUptoCard

/-- THE SECOND FORM's CARD OF 'docstorelaw50.RouterMoved'. -/
def routerMovedUptoCard : Claim7 := { stood := { row := routerMovedUptoRow, standIns := [], harness := (true, "d760985c22148e55cd1a8abc7402baa4a725f89cf5395fb4c61866adb12a1757"), looks := false }, kinds := [], alts := [], laidByText := true, laidKinds := [.data, .pinned], laidTests := true, laidLooks := .later }
def RouterMovedUptoCardSaid : Prop := Claim7.holds Tryz.pinned (.plain (OpenSpec.upto routerMovedSpec)) routerMovedUptoCard
end Rows
end Go.Proofs.YtblepmmibhphhaaGreatDoor
