/-
  NARROWER THAN 'FOR EVERY INPUT', by the rows' own cells (each row's printed sentence says how): IntervalNormal: loops, laid · IntervalHas: loops, laid · IntervalPoints: loops, laid · IntervalApart: loops, laid · IntervalMeets: loops, laid · IntervalMembers: loops, laid · IntervalLaws: loops, laid.
  DERIVED. THE GIVEN ROWS OF THIS SEAT. 7 by the template 'for every input the law returns true; each argument reads behind the call as it read before'; 0 by the template 'total and deterministic' (their statements: YtdmabhbhlnpkgaaDoorTotals.lean).
  GIVEN WITH THE SEED: the statements are not yours to turn. If you find one false, say at which input.
  Laid BY PROGRAM, IN A SANDBOX (cutbox-rows.mjs): the forced cells as the released guide's own fill.sh prints them over the translation 0fb2550574b29541… (all of the seat's roots in one cut). By AI agents, Wed Nov 11 2026. No macro, syntax, notation, axiom, sorry.
-/
import Derived.Test.YtdmabhbhlnpkgaaDoorChecked
import GoSem.PinnedTables
import GoSem.Claim
import GoSem.ClaimJoined
import GoSem.ClaimMapViews
import Derived.JoinedTies
import Derived.KernelRfl
namespace Go.Proofs.YtdmabhbhlnpkgaaDoor
/- THE CELL 'sum', in the pinned program and in every row, IS THE sha256 OF THE DUMP (.gsa) THAT YtdmabhbhlnpkgaaDoorProg.lean LOADS. Nothing in Lean hashes anything: it is a label: what it is worth is what the hold of that sum in a sandbox is worth. -/
noncomputable def Tryd.pinned : Pinned := { name := "ytdmabhbhlnpkgaadoor", sum := "0fb2550574b29541934280f0c49725f173f70035cd5e487b55250d07a2cb0b44", checked := Tryd.checked }
namespace Rows
def none {H : Type} : Left H := { results := [], args := [] }

/- WHAT THE LISTED PACKAGE-LEVEL VARIABLES READ AS WHEN THE CALL BEGINS. Each datum BY PROGRAM (the guide's laid-datum.mjs) off the statement by which the dump's own 'gosem.cut.vars' lays the variable. In a bare row this is a premise. The card (YtdmabhbhlnpkgaaDoorCards.lean) ties it to the program's text. -/
def laid_unicode_utf8_acceptRanges {H : Type} : DataW H := .agg [.agg [.lit (.int .u8 128), .lit (.int .u8 191)], .agg [.lit (.int .u8 160), .lit (.int .u8 191)], .agg [.lit (.int .u8 128), .lit (.int .u8 159)], .agg [.lit (.int .u8 144), .lit (.int .u8 191)], .agg [.lit (.int .u8 128), .lit (.int .u8 143)], .agg [.lit (.int .u8 0), .lit (.int .u8 0)], .agg [.lit (.int .u8 0), .lit (.int .u8 0)], .agg [.lit (.int .u8 0), .lit (.int .u8 0)], .agg [.lit (.int .u8 0), .lit (.int .u8 0)], .agg [.lit (.int .u8 0), .lit (.int .u8 0)], .agg [.lit (.int .u8 0), .lit (.int .u8 0)], .agg [.lit (.int .u8 0), .lit (.int .u8 0)], .agg [.lit (.int .u8 0), .lit (.int .u8 0)], .agg [.lit (.int .u8 0), .lit (.int .u8 0)], .agg [.lit (.int .u8 0), .lit (.int .u8 0)], .agg [.lit (.int .u8 0), .lit (.int .u8 0)]]
/-- One of Go's own tables, pinned by name: the form's constant. -/
def laid_unicode_utf8_first : DataW Unit := Go.Pinned.utf8First

/-- 'docstorelaw24.IntervalNormal': WHATEVER THE INPUT: true; the input reads as it did. -/
def intervalNormalSpec : ChangeSpec := { name := "intervalNormal", fn := fun _ => fun
  | [d] => { results := [.lit (.bool true)], args := [d] }
  | _ => none }
def intervalNormalRow : OpenClaim := { program := "ytdmabhbhlnpkgaadoor", sum := "0fb2550574b29541934280f0c49725f173f70035cd5e487b55250d07a2cb0b44", func := "docstore/docstorelaw24.IntervalNormal", spec := "intervalNormal", inPlace := ["internal/bytealg.abigen_runtime_cmpstring"], unfollowed := true, recurses := true, named := ["unicode/utf8.first", "unicode/utf8.acceptRanges"], loops := true, apart := false, laid := [("unicode/utf8.acceptRanges", laid_unicode_utf8_acceptRanges), ("unicode/utf8.first", laid_unicode_utf8_first)] }
def IntervalNormalSaid : Prop := intervalNormalRow.holds Tryd.pinned (OpenSpec.ofChange intervalNormalSpec)

/-- ITS FALSE NEIGHBOUR: 'it returns false'. Refute it at one input. -/
def intervalNormalWrong : ChangeSpec := { name := "intervalNormal", fn := fun _ => fun
  | [d] => { results := [.lit (.bool false)], args := [d] }
  | _ => none }
def IntervalNormalWrongFalsely : Prop := intervalNormalRow.holds Tryd.pinned (OpenSpec.ofChange intervalNormalWrong)

/-- 'docstorelaw24.IntervalHas': WHATEVER THE INPUT: true; the input reads as it did. -/
def intervalHasSpec : ChangeSpec := { name := "intervalHas", fn := fun _ => fun
  | [d1, d2] => { results := [.lit (.bool true)], args := [d1, d2] }
  | _ => none }
def intervalHasRow : OpenClaim := { program := "ytdmabhbhlnpkgaadoor", sum := "0fb2550574b29541934280f0c49725f173f70035cd5e487b55250d07a2cb0b44", func := "docstore/docstorelaw24.IntervalHas", spec := "intervalHas", inPlace := ["internal/bytealg.abigen_runtime_cmpstring"], unfollowed := true, recurses := true, named := ["unicode/utf8.first", "unicode/utf8.acceptRanges"], loops := true, apart := false, laid := [("unicode/utf8.acceptRanges", laid_unicode_utf8_acceptRanges), ("unicode/utf8.first", laid_unicode_utf8_first)] }
def IntervalHasSaid : Prop := intervalHasRow.holds Tryd.pinned (OpenSpec.ofChange intervalHasSpec)

/-- ITS FALSE NEIGHBOUR: 'it returns false'. Refute it at one input. -/
def intervalHasWrong : ChangeSpec := { name := "intervalHas", fn := fun _ => fun
  | [d1, d2] => { results := [.lit (.bool false)], args := [d1, d2] }
  | _ => none }
def IntervalHasWrongFalsely : Prop := intervalHasRow.holds Tryd.pinned (OpenSpec.ofChange intervalHasWrong)

/-- 'docstorelaw24.IntervalPoints': WHATEVER THE INPUT: true; the input reads as it did. -/
def intervalPointsSpec : ChangeSpec := { name := "intervalPoints", fn := fun _ => fun
  | [d] => { results := [.lit (.bool true)], args := [d] }
  | _ => none }
def intervalPointsRow : OpenClaim := { program := "ytdmabhbhlnpkgaadoor", sum := "0fb2550574b29541934280f0c49725f173f70035cd5e487b55250d07a2cb0b44", func := "docstore/docstorelaw24.IntervalPoints", spec := "intervalPoints", inPlace := ["internal/bytealg.abigen_runtime_cmpstring"], unfollowed := true, recurses := true, named := ["unicode/utf8.first", "unicode/utf8.acceptRanges"], loops := true, apart := false, laid := [("unicode/utf8.acceptRanges", laid_unicode_utf8_acceptRanges), ("unicode/utf8.first", laid_unicode_utf8_first)] }
def IntervalPointsSaid : Prop := intervalPointsRow.holds Tryd.pinned (OpenSpec.ofChange intervalPointsSpec)

/-- ITS FALSE NEIGHBOUR: 'it returns false'. Refute it at one input. -/
def intervalPointsWrong : ChangeSpec := { name := "intervalPoints", fn := fun _ => fun
  | [d] => { results := [.lit (.bool false)], args := [d] }
  | _ => none }
def IntervalPointsWrongFalsely : Prop := intervalPointsRow.holds Tryd.pinned (OpenSpec.ofChange intervalPointsWrong)

/-- 'docstorelaw24.IntervalApart': WHATEVER THE INPUT: true; the input reads as it did. -/
def intervalApartSpec : ChangeSpec := { name := "intervalApart", fn := fun _ => fun
  | [d] => { results := [.lit (.bool true)], args := [d] }
  | _ => none }
def intervalApartRow : OpenClaim := { program := "ytdmabhbhlnpkgaadoor", sum := "0fb2550574b29541934280f0c49725f173f70035cd5e487b55250d07a2cb0b44", func := "docstore/docstorelaw24.IntervalApart", spec := "intervalApart", inPlace := ["internal/bytealg.abigen_runtime_cmpstring"], unfollowed := true, recurses := true, named := ["unicode/utf8.first", "unicode/utf8.acceptRanges"], loops := true, apart := false, laid := [("unicode/utf8.acceptRanges", laid_unicode_utf8_acceptRanges), ("unicode/utf8.first", laid_unicode_utf8_first)] }
def IntervalApartSaid : Prop := intervalApartRow.holds Tryd.pinned (OpenSpec.ofChange intervalApartSpec)

/-- ITS FALSE NEIGHBOUR: 'it returns false'. Refute it at one input. -/
def intervalApartWrong : ChangeSpec := { name := "intervalApart", fn := fun _ => fun
  | [d] => { results := [.lit (.bool false)], args := [d] }
  | _ => none }
def IntervalApartWrongFalsely : Prop := intervalApartRow.holds Tryd.pinned (OpenSpec.ofChange intervalApartWrong)

/-- 'docstorelaw24.IntervalMeets': WHATEVER THE INPUT: true; the input reads as it did. -/
def intervalMeetsSpec : ChangeSpec := { name := "intervalMeets", fn := fun _ => fun
  | [d1, d2] => { results := [.lit (.bool true)], args := [d1, d2] }
  | _ => none }
def intervalMeetsRow : OpenClaim := { program := "ytdmabhbhlnpkgaadoor", sum := "0fb2550574b29541934280f0c49725f173f70035cd5e487b55250d07a2cb0b44", func := "docstore/docstorelaw24.IntervalMeets", spec := "intervalMeets", inPlace := ["internal/bytealg.abigen_runtime_cmpstring"], unfollowed := true, recurses := true, named := ["unicode/utf8.first", "unicode/utf8.acceptRanges"], loops := true, apart := false, laid := [("unicode/utf8.acceptRanges", laid_unicode_utf8_acceptRanges), ("unicode/utf8.first", laid_unicode_utf8_first)] }
def IntervalMeetsSaid : Prop := intervalMeetsRow.holds Tryd.pinned (OpenSpec.ofChange intervalMeetsSpec)

/-- ITS FALSE NEIGHBOUR: 'it returns false'. Refute it at one input. -/
def intervalMeetsWrong : ChangeSpec := { name := "intervalMeets", fn := fun _ => fun
  | [d1, d2] => { results := [.lit (.bool false)], args := [d1, d2] }
  | _ => none }
def IntervalMeetsWrongFalsely : Prop := intervalMeetsRow.holds Tryd.pinned (OpenSpec.ofChange intervalMeetsWrong)

/-- 'docstorelaw24.IntervalMembers': WHATEVER THE INPUT: true; the input reads as it did. -/
def intervalMembersSpec : ChangeSpec := { name := "intervalMembers", fn := fun _ => fun
  | [d1, d2, d3] => { results := [.lit (.bool true)], args := [d1, d2, d3] }
  | _ => none }
def intervalMembersRow : OpenClaim := { program := "ytdmabhbhlnpkgaadoor", sum := "0fb2550574b29541934280f0c49725f173f70035cd5e487b55250d07a2cb0b44", func := "docstore/docstorelaw24.IntervalMembers", spec := "intervalMembers", inPlace := ["internal/bytealg.abigen_runtime_cmpstring"], unfollowed := true, recurses := true, named := ["unicode/utf8.first", "unicode/utf8.acceptRanges"], loops := true, apart := false, laid := [("unicode/utf8.acceptRanges", laid_unicode_utf8_acceptRanges), ("unicode/utf8.first", laid_unicode_utf8_first)] }
def IntervalMembersSaid : Prop := intervalMembersRow.holds Tryd.pinned (OpenSpec.ofChange intervalMembersSpec)

/-- ITS FALSE NEIGHBOUR: 'it returns false'. Refute it at one input. -/
def intervalMembersWrong : ChangeSpec := { name := "intervalMembers", fn := fun _ => fun
  | [d1, d2, d3] => { results := [.lit (.bool false)], args := [d1, d2, d3] }
  | _ => none }
def IntervalMembersWrongFalsely : Prop := intervalMembersRow.holds Tryd.pinned (OpenSpec.ofChange intervalMembersWrong)

/-- 'docstorelaw24.IntervalLaws': WHATEVER THE INPUT: true; the input reads as it did. -/
def intervalLawsSpec : ChangeSpec := { name := "intervalLaws", fn := fun _ => fun
  | [d1, d2] => { results := [.lit (.bool true)], args := [d1, d2] }
  | _ => none }
def intervalLawsRow : OpenClaim := { program := "ytdmabhbhlnpkgaadoor", sum := "0fb2550574b29541934280f0c49725f173f70035cd5e487b55250d07a2cb0b44", func := "docstore/docstorelaw24.IntervalLaws", spec := "intervalLaws", inPlace := ["internal/bytealg.abigen_runtime_cmpstring"], unfollowed := true, recurses := true, named := ["unicode/utf8.first", "unicode/utf8.acceptRanges"], loops := true, apart := false, laid := [("unicode/utf8.acceptRanges", laid_unicode_utf8_acceptRanges), ("unicode/utf8.first", laid_unicode_utf8_first)] }
def IntervalLawsSaid : Prop := intervalLawsRow.holds Tryd.pinned (OpenSpec.ofChange intervalLawsSpec)

/-- ITS FALSE NEIGHBOUR: 'it returns false'. Refute it at one input. -/
def intervalLawsWrong : ChangeSpec := { name := "intervalLaws", fn := fun _ => fun
  | [d1, d2] => { results := [.lit (.bool false)], args := [d1, d2] }
  | _ => none }
def IntervalLawsWrongFalsely : Prop := intervalLawsRow.holds Tryd.pinned (OpenSpec.ofChange intervalLawsWrong)

/- THE SECOND FORM. 'bulk': how many values and letters a reading holds, each counted each time it is reached (what is shared counts as often as it is met; a slice's spare places count too). A statement '..UptoSaid' is the law's where the arguments, and the package variables that the reading takes, are together of bulk at most 1048576: NARROWER than '..Said'. Prove '..Said' where nothing that the law and all that it calls make is longer than what came in: it says more and counts as full. Else prove '..UptoSaid'. A law counts once. -/
mutual
def uptoBulk {H : Type} : DataW H → Nat
  | .lit (.string bytes) => bytes.length + 1
  | .lit _ => 1
  | .nil => 1
  | .ptr d => uptoBulk d + 1
  | .slice elems spare => uptoBulkAll elems + uptoBulkAll spare + 1
  | .agg parts => uptoBulkAll parts + 1
  | .iface _ d => uptoBulk d + 1
  | .map entries => uptoBulkEntries entries + 1
  | .held _ => 1
def uptoBulkAll {H : Type} : List (DataW H) → Nat
  | [] => 0
  | d :: r => uptoBulk d + uptoBulkAll r
def uptoBulkEntries {H : Type} : List (Lit × DataW H) → Nat
  | [] => 0
  | x :: r => uptoBulkEntry x + uptoBulkEntries r
def uptoBulkEntry {H : Type} : Lit × DataW H → Nat
  | (.string bytes, d) => bytes.length + uptoBulk d + 1
  | (_, d) => uptoBulk d + 1
 end
def uptoSmall : (H : Type) → List (DataW H) → Bool := fun _ ds => decide (uptoBulkAll ds ≤ 1048576)
def OpenSpec.upto (s : _root_.Go.ChangeSpec) : _root_.Go.OpenSpec := { _root_.Go.OpenSpec.ofChange s with cond := some uptoSmall }

/-- 'docstorelaw24.IntervalNormal', WHERE WHAT IT READS IS OF BULK AT MOST 1048576: true; the input reads as it did. -/
def intervalNormalUptoRow : OpenClaim := { program := "ytdmabhbhlnpkgaadoor", sum := "0fb2550574b29541934280f0c49725f173f70035cd5e487b55250d07a2cb0b44", func := "docstore/docstorelaw24.IntervalNormal", spec := "intervalNormal", inPlace := ["internal/bytealg.abigen_runtime_cmpstring"], unfollowed := true, recurses := true, named := ["unicode/utf8.first", "unicode/utf8.acceptRanges"], loops := true, apart := false, laid := [("unicode/utf8.acceptRanges", laid_unicode_utf8_acceptRanges), ("unicode/utf8.first", laid_unicode_utf8_first)], narrowed := true }
def IntervalNormalUptoSaid : Prop := intervalNormalUptoRow.holds Tryd.pinned (OpenSpec.upto intervalNormalSpec)

/-- 'docstorelaw24.IntervalHas', WHERE WHAT IT READS IS OF BULK AT MOST 1048576: true; the input reads as it did. -/
def intervalHasUptoRow : OpenClaim := { program := "ytdmabhbhlnpkgaadoor", sum := "0fb2550574b29541934280f0c49725f173f70035cd5e487b55250d07a2cb0b44", func := "docstore/docstorelaw24.IntervalHas", spec := "intervalHas", inPlace := ["internal/bytealg.abigen_runtime_cmpstring"], unfollowed := true, recurses := true, named := ["unicode/utf8.first", "unicode/utf8.acceptRanges"], loops := true, apart := false, laid := [("unicode/utf8.acceptRanges", laid_unicode_utf8_acceptRanges), ("unicode/utf8.first", laid_unicode_utf8_first)], narrowed := true }
def IntervalHasUptoSaid : Prop := intervalHasUptoRow.holds Tryd.pinned (OpenSpec.upto intervalHasSpec)

/-- 'docstorelaw24.IntervalPoints', WHERE WHAT IT READS IS OF BULK AT MOST 1048576: true; the input reads as it did. -/
def intervalPointsUptoRow : OpenClaim := { program := "ytdmabhbhlnpkgaadoor", sum := "0fb2550574b29541934280f0c49725f173f70035cd5e487b55250d07a2cb0b44", func := "docstore/docstorelaw24.IntervalPoints", spec := "intervalPoints", inPlace := ["internal/bytealg.abigen_runtime_cmpstring"], unfollowed := true, recurses := true, named := ["unicode/utf8.first", "unicode/utf8.acceptRanges"], loops := true, apart := false, laid := [("unicode/utf8.acceptRanges", laid_unicode_utf8_acceptRanges), ("unicode/utf8.first", laid_unicode_utf8_first)], narrowed := true }
def IntervalPointsUptoSaid : Prop := intervalPointsUptoRow.holds Tryd.pinned (OpenSpec.upto intervalPointsSpec)

/-- 'docstorelaw24.IntervalApart', WHERE WHAT IT READS IS OF BULK AT MOST 1048576: true; the input reads as it did. -/
def intervalApartUptoRow : OpenClaim := { program := "ytdmabhbhlnpkgaadoor", sum := "0fb2550574b29541934280f0c49725f173f70035cd5e487b55250d07a2cb0b44", func := "docstore/docstorelaw24.IntervalApart", spec := "intervalApart", inPlace := ["internal/bytealg.abigen_runtime_cmpstring"], unfollowed := true, recurses := true, named := ["unicode/utf8.first", "unicode/utf8.acceptRanges"], loops := true, apart := false, laid := [("unicode/utf8.acceptRanges", laid_unicode_utf8_acceptRanges), ("unicode/utf8.first", laid_unicode_utf8_first)], narrowed := true }
def IntervalApartUptoSaid : Prop := intervalApartUptoRow.holds Tryd.pinned (OpenSpec.upto intervalApartSpec)

/-- 'docstorelaw24.IntervalMeets', WHERE WHAT IT READS IS OF BULK AT MOST 1048576: true; the input reads as it did. -/
def intervalMeetsUptoRow : OpenClaim := { program := "ytdmabhbhlnpkgaadoor", sum := "0fb2550574b29541934280f0c49725f173f70035cd5e487b55250d07a2cb0b44", func := "docstore/docstorelaw24.IntervalMeets", spec := "intervalMeets", inPlace := ["internal/bytealg.abigen_runtime_cmpstring"], unfollowed := true, recurses := true, named := ["unicode/utf8.first", "unicode/utf8.acceptRanges"], loops := true, apart := false, laid := [("unicode/utf8.acceptRanges", laid_unicode_utf8_acceptRanges), ("unicode/utf8.first", laid_unicode_utf8_first)], narrowed := true }
def IntervalMeetsUptoSaid : Prop := intervalMeetsUptoRow.holds Tryd.pinned (OpenSpec.upto intervalMeetsSpec)

/-- 'docstorelaw24.IntervalMembers', WHERE WHAT IT READS IS OF BULK AT MOST 1048576: true; the input reads as it did. -/
def intervalMembersUptoRow : OpenClaim := { program := "ytdmabhbhlnpkgaadoor", sum := "0fb2550574b29541934280f0c49725f173f70035cd5e487b55250d07a2cb0b44", func := "docstore/docstorelaw24.IntervalMembers", spec := "intervalMembers", inPlace := ["internal/bytealg.abigen_runtime_cmpstring"], unfollowed := true, recurses := true, named := ["unicode/utf8.first", "unicode/utf8.acceptRanges"], loops := true, apart := false, laid := [("unicode/utf8.acceptRanges", laid_unicode_utf8_acceptRanges), ("unicode/utf8.first", laid_unicode_utf8_first)], narrowed := true }
def IntervalMembersUptoSaid : Prop := intervalMembersUptoRow.holds Tryd.pinned (OpenSpec.upto intervalMembersSpec)

/-- 'docstorelaw24.IntervalLaws', WHERE WHAT IT READS IS OF BULK AT MOST 1048576: true; the input reads as it did. -/
def intervalLawsUptoRow : OpenClaim := { program := "ytdmabhbhlnpkgaadoor", sum := "0fb2550574b29541934280f0c49725f173f70035cd5e487b55250d07a2cb0b44", func := "docstore/docstorelaw24.IntervalLaws", spec := "intervalLaws", inPlace := ["internal/bytealg.abigen_runtime_cmpstring"], unfollowed := true, recurses := true, named := ["unicode/utf8.first", "unicode/utf8.acceptRanges"], loops := true, apart := false, laid := [("unicode/utf8.acceptRanges", laid_unicode_utf8_acceptRanges), ("unicode/utf8.first", laid_unicode_utf8_first)], narrowed := true }
def IntervalLawsUptoSaid : Prop := intervalLawsUptoRow.holds Tryd.pinned (OpenSpec.upto intervalLawsSpec)

end Rows
end Go.Proofs.YtdmabhbhlnpkgaaDoor
