/-
  DERIVED. GIVEN WITH THE SEED: THE CARDS: each row of YtfkdihlbaghajaaGreatDoorRows.lean that lists a variable, with what it lists TIED to the program's text (the seventh form; the later family's looks); each row that meets fmt, with fmt's text TOLD by the authors' own Lean function (tested against real Go, not proved from fmt's source: count such statements apart). THE CARD IS WHAT COUNTS. Prove the row's statement (the work); the ties are given (YtfkdihlbaghajaaGreatDoorTie.lean); close each card by the builder's one call (the guide's Derived/Test/ToyasCard.lean, 'card_holds'). Laid BY PROGRAM, IN A SANDBOX (cutbox-door.mjs). By AI agents, Wed Nov 11 2026. No macro, syntax, notation, axiom, sorry.
-/
import Derived.Test.YtfkdihlbaghajaaGreatDoorRows
import GoSem.ClaimSeven
namespace Go.Proofs.YtfkdihlbaghajaaGreatDoor
namespace Rows

/-- THE TIED CARD OF 'docstorelaw50.RouterTargets'. -/
def routerTargetsCard : Claim7 := { stood := { row := routerTargetsRow, standIns := [], harness := (true, "4c33ef7404093d801bf132aeb2fa5003bcfb2bab851189be6c0bb6bdcb16b118"), looks := false }, kinds := [], alts := [], laidByText := true, laidKinds := [.data, .pinned], laidTests := true, laidLooks := .later }
def RouterTargetsCardSaid : Prop := Claim7.holds Tryz.pinned (.plain (OpenSpec.ofChange routerTargetsSpec)) routerTargetsCard

/-- THE TIED CARD OF 'docstorelaw25.BoundsOf'. -/
def boundsOfCard : Claim7 := { stood := { row := boundsOfRow, standIns := [], harness := (true, "4c33ef7404093d801bf132aeb2fa5003bcfb2bab851189be6c0bb6bdcb16b118"), looks := false }, kinds := [], alts := [], laidByText := true, laidKinds := [.data, .data, .data, .pinned], laidTests := true, laidLooks := .later }
def BoundsOfCardSaid : Prop := Claim7.holds Tryz.pinned (.plain (OpenSpec.ofChange boundsOfSpec)) boundsOfCard

/-- THE TIED CARD OF 'docstorelaw25.BoundsFor'. -/
def boundsForCard : Claim7 := { stood := { row := boundsForRow, standIns := [], harness := (true, "4c33ef7404093d801bf132aeb2fa5003bcfb2bab851189be6c0bb6bdcb16b118"), looks := false }, kinds := [], alts := [], laidByText := true, laidKinds := [.data, .data, .data, .pinned], laidTests := true, laidLooks := .later }
def BoundsForCardSaid : Prop := Claim7.holds Tryz.pinned (.plain (OpenSpec.ofChange boundsForSpec)) boundsForCard

/-- THE SECOND FORM's CARD OF 'docstorelaw50.RouterTargets'. -/
def routerTargetsUptoCard : Claim7 := { stood := { row := routerTargetsUptoRow, standIns := [], harness := (true, "4c33ef7404093d801bf132aeb2fa5003bcfb2bab851189be6c0bb6bdcb16b118"), looks := false }, kinds := [], alts := [], laidByText := true, laidKinds := [.data, .pinned], laidTests := true, laidLooks := .later }
def RouterTargetsUptoCardSaid : Prop := Claim7.holds Tryz.pinned (.plain (OpenSpec.upto routerTargetsSpec)) routerTargetsUptoCard

/-- THE SECOND FORM's CARD OF 'docstorelaw25.BoundsOf'. -/
def boundsOfUptoCard : Claim7 := { stood := { row := boundsOfUptoRow, standIns := [], harness := (true, "4c33ef7404093d801bf132aeb2fa5003bcfb2bab851189be6c0bb6bdcb16b118"), looks := false }, kinds := [], alts := [], laidByText := true, laidKinds := [.data, .data, .data, .pinned], laidTests := true, laidLooks := .later }
def BoundsOfUptoCardSaid : Prop := Claim7.holds Tryz.pinned (.plain (OpenSpec.upto boundsOfSpec)) boundsOfUptoCard

/-- THE SECOND FORM's CARD OF 'docstorelaw25.BoundsFor'. -/
def boundsForUptoCard : Claim7 := { stood := { row := boundsForUptoRow, standIns := [], harness := (true, "4c33ef7404093d801bf132aeb2fa5003bcfb2bab851189be6c0bb6bdcb16b118"), looks := false }, kinds := [], alts := [], laidByText := true, laidKinds := [.data, .data, .data, .pinned], laidTests := true, laidLooks := .later }
def BoundsForUptoCardSaid : Prop := Claim7.holds Tryz.pinned (.plain (OpenSpec.upto boundsForSpec)) boundsForUptoCard
end Rows
end Go.Proofs.YtfkdihlbaghajaaGreatDoor
