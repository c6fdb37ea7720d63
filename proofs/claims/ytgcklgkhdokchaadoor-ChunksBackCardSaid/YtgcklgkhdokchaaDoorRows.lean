/-
  NARROWER THAN 'FOR EVERY INPUT', by the rows' own cells (each row's printed sentence says how): ChunksNew: laid · ChunksMiddles: laid · ChunksBack: laid · ChunksChanges: laid · ChunksKeeps: laid.
  DERIVED. THE GIVEN ROWS OF THIS SEAT. 5 by the template 'for every input the law returns true; each argument reads behind the call as it read before'; 0 by the template 'total and deterministic' (their statements: YtgcklgkhdokchaaDoorTotals.lean).
  GIVEN WITH THE SEED: the statements are not yours to turn. If you find one false, say at which input.
  Laid BY PROGRAM, IN A SANDBOX (cutbox-rows.mjs): the forced cells as the released guide's own fill.sh prints them over the translation 8e7280b5d02cb267… (all of the seat's roots in one cut). By AI agents, Wed Nov 11 2026. No macro, syntax, notation, axiom, sorry.
-/
import Derived.Test.YtgcklgkhdokchaaDoorChecked
import GoSem.PinnedTables
import GoSem.Claim
import GoSem.ClaimJoined
import GoSem.ClaimMapViews
import Derived.JoinedTies
import Derived.KernelRfl
namespace Go.Proofs.YtgcklgkhdokchaaDoor
/- THE CELL 'sum', in the pinned program and in every row, IS THE sha256 OF THE DUMP (.gsa) THAT YtgcklgkhdokchaaDoorProg.lean LOADS. Nothing in Lean hashes anything: it is a label: what it is worth is what the hold of that sum in a sandbox is worth. -/
noncomputable def Tryd.pinned : Pinned := { name := "ytgcklgkhdokchaadoor", sum := "8e7280b5d02cb267a36d7854a32415eaae5c7101a34f05dd25ebf8afc7a0046d", checked := Tryd.checked }
namespace Rows
def none {H : Type} : Left H := { results := [], args := [] }

/- WHAT THE LISTED PACKAGE-LEVEL VARIABLES READ AS WHEN THE CALL BEGINS. Each datum BY PROGRAM (the guide's laid-datum.mjs) off the statement by which the dump's own 'gosem.cut.vars' lays the variable. In a bare row this is a premise. The card (YtgcklgkhdokchaaDoorCards.lean) ties it to the program's text. -/
def laid_unicode_utf8_acceptRanges {H : Type} : DataW H := .agg [.agg [.lit (.int .u8 128), .lit (.int .u8 191)], .agg [.lit (.int .u8 160), .lit (.int .u8 191)], .agg [.lit (.int .u8 128), .lit (.int .u8 159)], .agg [.lit (.int .u8 144), .lit (.int .u8 191)], .agg [.lit (.int .u8 128), .lit (.int .u8 143)], .agg [.lit (.int .u8 0), .lit (.int .u8 0)], .agg [.lit (.int .u8 0), .lit (.int .u8 0)], .agg [.lit (.int .u8 0), .lit (.int .u8 0)], .agg [.lit (.int .u8 0), .lit (.int .u8 0)], .agg [.lit (.int .u8 0), .lit (.int .u8 0)], .agg [.lit (.int .u8 0), .lit (.int .u8 0)], .agg [.lit (.int .u8 0), .lit (.int .u8 0)], .agg [.lit (.int .u8 0), .lit (.int .u8 0)], .agg [.lit (.int .u8 0), .lit (.int .u8 0)], .agg [.lit (.int .u8 0), .lit (.int .u8 0)], .agg [.lit (.int .u8 0), .lit (.int .u8 0)]]
/-- One of Go's own tables, pinned by name: the form's constant. -/
def laid_unicode_utf8_first : DataW Unit := Go.Pinned.utf8First

/-- 'docstorelaw49.ChunksNew': WHATEVER THE INPUT: true; the input reads as it did. -/
def chunksNewSpec : ChangeSpec := { name := "chunksNew", fn := fun _ => fun
  | [d] => { results := [.lit (.bool true)], args := [d] }
  | _ => none }
def chunksNewRow : OpenClaim := { program := "ytgcklgkhdokchaadoor", sum := "8e7280b5d02cb267a36d7854a32415eaae5c7101a34f05dd25ebf8afc7a0046d", func := "docstore/docstorelaw49.ChunksNew", spec := "chunksNew", inPlace := ["slices.overlaps[docstore/api.Chunk]"], unfollowed := true, recurses := true, named := ["unicode/utf8.first", "unicode/utf8.acceptRanges"], apart := false, laid := [("unicode/utf8.acceptRanges", laid_unicode_utf8_acceptRanges), ("unicode/utf8.first", laid_unicode_utf8_first)] }
def ChunksNewSaid : Prop := chunksNewRow.holds Tryd.pinned (OpenSpec.ofChange chunksNewSpec)

/-- ITS FALSE NEIGHBOUR: 'it returns false'. Refute it at one input. -/
def chunksNewWrong : ChangeSpec := { name := "chunksNew", fn := fun _ => fun
  | [d] => { results := [.lit (.bool false)], args := [d] }
  | _ => none }
def ChunksNewWrongFalsely : Prop := chunksNewRow.holds Tryd.pinned (OpenSpec.ofChange chunksNewWrong)

/-- 'docstorelaw49.ChunksMiddles': WHATEVER THE INPUT: true; the input reads as it did. -/
def chunksMiddlesSpec : ChangeSpec := { name := "chunksMiddles", fn := fun _ => fun
  | [d] => { results := [.lit (.bool true)], args := [d] }
  | _ => none }
def chunksMiddlesRow : OpenClaim := { program := "ytgcklgkhdokchaadoor", sum := "8e7280b5d02cb267a36d7854a32415eaae5c7101a34f05dd25ebf8afc7a0046d", func := "docstore/docstorelaw49.ChunksMiddles", spec := "chunksMiddles", inPlace := ["slices.overlaps[docstore/api.Chunk]"], unfollowed := true, recurses := true, named := ["unicode/utf8.first", "unicode/utf8.acceptRanges"], apart := false, laid := [("unicode/utf8.acceptRanges", laid_unicode_utf8_acceptRanges), ("unicode/utf8.first", laid_unicode_utf8_first)] }
def ChunksMiddlesSaid : Prop := chunksMiddlesRow.holds Tryd.pinned (OpenSpec.ofChange chunksMiddlesSpec)

/-- ITS FALSE NEIGHBOUR: 'it returns false'. Refute it at one input. -/
def chunksMiddlesWrong : ChangeSpec := { name := "chunksMiddles", fn := fun _ => fun
  | [d] => { results := [.lit (.bool false)], args := [d] }
  | _ => none }
def ChunksMiddlesWrongFalsely : Prop := chunksMiddlesRow.holds Tryd.pinned (OpenSpec.ofChange chunksMiddlesWrong)

/-- 'docstorelaw49.ChunksBack': WHATEVER THE INPUT: true; the input reads as it did. -/
def chunksBackSpec : ChangeSpec := { name := "chunksBack", fn := fun _ => fun
  | [d1, d2] => { results := [.lit (.bool true)], args := [d1, d2] }
  | _ => none }
def chunksBackRow : OpenClaim := { program := "ytgcklgkhdokchaadoor", sum := "8e7280b5d02cb267a36d7854a32415eaae5c7101a34f05dd25ebf8afc7a0046d", func := "docstore/docstorelaw49.ChunksBack", spec := "chunksBack", inPlace := ["slices.overlaps[docstore/api.Chunk]"], unfollowed := true, recurses := true, named := ["unicode/utf8.first", "unicode/utf8.acceptRanges"], apart := false, laid := [("unicode/utf8.acceptRanges", laid_unicode_utf8_acceptRanges), ("unicode/utf8.first", laid_unicode_utf8_first)] }
def ChunksBackSaid : Prop := chunksBackRow.holds Tryd.pinned (OpenSpec.ofChange chunksBackSpec)

/-- ITS FALSE NEIGHBOUR: 'it returns false'. Refute it at one input. -/
def chunksBackWrong : ChangeSpec := { name := "chunksBack", fn := fun _ => fun
  | [d1, d2] => { results := [.lit (.bool false)], args := [d1, d2] }
  | _ => none }
def ChunksBackWrongFalsely : Prop := chunksBackRow.holds Tryd.pinned (OpenSpec.ofChange chunksBackWrong)

/-- 'docstorelaw49.ChunksChanges': WHATEVER THE INPUT: true; the input reads as it did. -/
def chunksChangesSpec : ChangeSpec := { name := "chunksChanges", fn := fun _ => fun
  | [d1, d2] => { results := [.lit (.bool true)], args := [d1, d2] }
  | _ => none }
def chunksChangesRow : OpenClaim := { program := "ytgcklgkhdokchaadoor", sum := "8e7280b5d02cb267a36d7854a32415eaae5c7101a34f05dd25ebf8afc7a0046d", func := "docstore/docstorelaw49.ChunksChanges", spec := "chunksChanges", inPlace := ["slices.overlaps[docstore/api.Chunk]"], unfollowed := true, recurses := true, named := ["unicode/utf8.first", "unicode/utf8.acceptRanges"], apart := false, laid := [("unicode/utf8.acceptRanges", laid_unicode_utf8_acceptRanges), ("unicode/utf8.first", laid_unicode_utf8_first)] }
def ChunksChangesSaid : Prop := chunksChangesRow.holds Tryd.pinned (OpenSpec.ofChange chunksChangesSpec)

/-- ITS FALSE NEIGHBOUR: 'it returns false'. Refute it at one input. -/
def chunksChangesWrong : ChangeSpec := { name := "chunksChanges", fn := fun _ => fun
  | [d1, d2] => { results := [.lit (.bool false)], args := [d1, d2] }
  | _ => none }
def ChunksChangesWrongFalsely : Prop := chunksChangesRow.holds Tryd.pinned (OpenSpec.ofChange chunksChangesWrong)

/-- 'docstorelaw49.ChunksKeeps': WHATEVER THE INPUT: true; the input reads as it did. -/
def chunksKeepsSpec : ChangeSpec := { name := "chunksKeeps", fn := fun _ => fun
  | [d1, d2, d3] => { results := [.lit (.bool true)], args := [d1, d2, d3] }
  | _ => none }
def chunksKeepsRow : OpenClaim := { program := "ytgcklgkhdokchaadoor", sum := "8e7280b5d02cb267a36d7854a32415eaae5c7101a34f05dd25ebf8afc7a0046d", func := "docstore/docstorelaw49.ChunksKeeps", spec := "chunksKeeps", inPlace := ["slices.overlaps[docstore/api.Chunk]"], unfollowed := true, recurses := true, named := ["unicode/utf8.first", "unicode/utf8.acceptRanges"], apart := false, laid := [("unicode/utf8.acceptRanges", laid_unicode_utf8_acceptRanges), ("unicode/utf8.first", laid_unicode_utf8_first)] }
def ChunksKeepsSaid : Prop := chunksKeepsRow.holds Tryd.pinned (OpenSpec.ofChange chunksKeepsSpec)

/-- ITS FALSE NEIGHBOUR: 'it returns false'. Refute it at one input. -/
def chunksKeepsWrong : ChangeSpec := { name := "chunksKeeps", fn := fun _ => fun
  | [d1, d2, d3] => { results := [.lit (.bool false)], args := [d1, d2, d3] }
  | _ => none }
def ChunksKeepsWrongFalsely : Prop := chunksKeepsRow.holds Tryd.pinned (OpenSpec.ofChange chunksKeepsWrong)

/- THE SECOND FORM. 'bulk': how many values and letters a reading holds, each counted each time it is reached (what is shared counts as often as it is met; a slice's spare places count too). A statement '..UptoSaid' is the law's where the arguments, and the package variables that the reading takes, are together of bulk at most 1048576: NARROWER than '..Said'. Prove '..Said' where nothing that the law and all that it calls make is longer than what came in: it says more and counts as full. Else prove '..UptoSaid'. A law counts once. -/
mutual
def uptoBulk {H : Type} : DataW H → Nat
  | .lit (.string bytes) => bytes.length + 1
  | .lit _ => 1
  | .nil => 1
  | .ptr d => uptoBulk d + 1
  | .slice elems spare => uptoBulkAll elems + uptoBulkAll spare + 1
  | .agg parts => uptoBulkAll parts + 1
  | .iface _ d => uptoBulk d + 1
  | .map entries => uptoBulkEntries entries + 1
  | .held _ => 1
def uptoBulkAll {H : Type} : List (DataW H) → Nat
  | [] => 0
  | d :: r => uptoBulk d + uptoBulkAll r
def uptoBulkEntries {H : Type} : List (Lit × DataW H) → Nat
  | [] => 0
  | x :: r => uptoBulkEntry x + uptoBulkEntries r
def uptoBulkEntry {H : Type} : Lit × DataW H → Nat
  | (.string bytes, d) => bytes.length + uptoBulk d + 1
  | (_, d) => uptoBulk d + 1
 end
def uptoSmall : (H : Type) → List (DataW H) → Bool := fun _ ds => decide (uptoBulkAll ds ≤ 1048576)
def OpenSpec.upto (s : _root_.Go.ChangeSpec) : _root_.Go.OpenSpec := { _root_.Go.OpenSpec.ofChange s with cond := some uptoSmall }

/-- 'docstorelaw49.ChunksNew', WHERE WHAT IT READS IS OF BULK AT MOST 1048576: true; the input reads as it did. -/
def chunksNewUptoRow : OpenClaim := { program := "ytgcklgkhdokchaadoor", sum := "8e7280b5d02cb267a36d7854a32415eaae5c7101a34f05dd25ebf8afc7a0046d", func := "docstore/docstorelaw49.ChunksNew", spec := "chunksNew", inPlace := ["slices.overlaps[docstore/api.Chunk]"], unfollowed := true, recurses := true, named := ["unicode/utf8.first", "unicode/utf8.acceptRanges"], apart := false, laid := [("unicode/utf8.acceptRanges", laid_unicode_utf8_acceptRanges), ("unicode/utf8.first", laid_unicode_utf8_first)], narrowed := true }
def ChunksNewUptoSaid : Prop := chunksNewUptoRow.holds Tryd.pinned (OpenSpec.upto chunksNewSpec)

/-- 'docstorelaw49.ChunksMiddles', WHERE WHAT IT READS IS OF BULK AT MOST 1048576: true; the input reads as it did. -/
def chunksMiddlesUptoRow : OpenClaim := { program := "ytgcklgkhdokchaadoor", sum := "8e7280b5d02cb267a36d7854a32415eaae5c7101a34f05dd25ebf8afc7a0046d", func := "docstore/docstorelaw49.ChunksMiddles", spec := "chunksMiddles", inPlace := ["slices.overlaps[docstore/api.Chunk]"], unfollowed := true, recurses := true, named := ["unicode/utf8.first", "unicode/utf8.acceptRanges"], apart := false, laid := [("unicode/utf8.acceptRanges", laid_unicode_utf8_acceptRanges), ("unicode/utf8.first", laid_unicode_utf8_first)], narrowed := true }
def ChunksMiddlesUptoSaid : Prop := chunksMiddlesUptoRow.holds Tryd.pinned (OpenSpec.upto chunksMiddlesSpec)

/-- 'docstorelaw49.ChunksBack', WHERE WHAT IT READS IS OF BULK AT MOST 1048576: true; the input reads as it did. -/
def chunksBackUptoRow : OpenClaim := { program := "ytgcklgkhdokchaadoor", sum := "8e7280b5d02cb267a36d7854a32415eaae5c7101a34f05dd25ebf8afc7a0046d", func := "docstore/docstorelaw49.ChunksBack", spec := "chunksBack", inPlace := ["slices.overlaps[docstore/api.Chunk]"], unfollowed := true, recurses := true, named := ["unicode/utf8.first", "unicode/utf8.acceptRanges"], apart := false, laid := [("unicode/utf8.acceptRanges", laid_unicode_utf8_acceptRanges), ("unicode/utf8.first", laid_unicode_utf8_first)], narrowed := true }
def ChunksBackUptoSaid : Prop := chunksBackUptoRow.holds Tryd.pinned (OpenSpec.upto chunksBackSpec)

/-- 'docstorelaw49.ChunksChanges', WHERE WHAT IT READS IS OF BULK AT MOST 1048576: true; the input reads as it did. -/
def chunksChangesUptoRow : OpenClaim := { program := "ytgcklgkhdokchaadoor", sum := "8e7280b5d02cb267a36d7854a32415eaae5c7101a34f05dd25ebf8afc7a0046d", func := "docstore/docstorelaw49.ChunksChanges", spec := "chunksChanges", inPlace := ["slices.overlaps[docstore/api.Chunk]"], unfollowed := true, recurses := true, named := ["unicode/utf8.first", "unicode/utf8.acceptRanges"], apart := false, laid := [("unicode/utf8.acceptRanges", laid_unicode_utf8_acceptRanges), ("unicode/utf8.first", laid_unicode_utf8_first)], narrowed := true }
def ChunksChangesUptoSaid : Prop := chunksChangesUptoRow.holds Tryd.pinned (OpenSpec.upto chunksChangesSpec)

/-- 'docstorelaw49.ChunksKeeps', WHERE WHAT IT READS IS OF BULK AT MOST 1048576: true; the input reads as it did. -/
def chunksKeepsUptoRow : OpenClaim := { program := "ytgcklgkhdokchaadoor", sum := "8e7280b5d02cb267a36d7854a32415eaae5c7101a34f05dd25ebf8afc7a0046d", func := "docstore/docstorelaw49.ChunksKeeps", spec := "chunksKeeps", inPlace := ["slices.overlaps[docstore/api.Chunk]"], unfollowed := true, recurses := true, named := ["unicode/utf8.first", "unicode/utf8.acceptRanges"], apart := false, laid := [("unicode/utf8.acceptRanges", laid_unicode_utf8_acceptRanges), ("unicode/utf8.first", laid_unicode_utf8_first)], narrowed := true }
def ChunksKeepsUptoSaid : Prop := chunksKeepsUptoRow.holds Tryd.pinned (OpenSpec.upto chunksKeepsSpec)

end Rows
end Go.Proofs.YtgcklgkhdokchaaDoor
