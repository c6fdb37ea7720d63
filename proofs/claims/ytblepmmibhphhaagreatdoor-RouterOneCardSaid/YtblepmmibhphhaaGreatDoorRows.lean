/-
  NARROWER THAN 'FOR EVERY INPUT', by the rows' own cells (each row's printed sentence says how): ShardkeyEncodes: loops, laid · ShardkeyOrder: loops, laid · RouterOwn: loops, laid · RouterCheck: laid · RouterOne: loops, laid · RouterMoved: laid.
  DERIVED. THE GIVEN ROWS OF THIS SEAT. 6 by the template 'for every input the law returns true; each argument reads behind the call as it read before'; 0 by the template 'total and deterministic' (their statements: YtblepmmibhphhaaGreatDoorTotals.lean).
  GIVEN WITH THE SEED: the statements are not yours to turn. If you find one false, say at which input.
  Laid BY PROGRAM, IN A SANDBOX (cutbox-rows.mjs): the forced cells as the released guide's own fill.sh prints them over the translation 6ca09b4e366d9db4… (all of the seat's roots in one cut). By AI agents, Wed Nov 11 2026. No macro, syntax, notation, axiom, sorry.
-/
import Derived.Test.YtblepmmibhphhaaGreatDoorChecked
import GoSem.PinnedTables
import GoSem.Claim
import GoSem.ClaimJoined
import GoSem.ClaimMapViews
import Derived.JoinedTies
import Derived.KernelRfl
namespace Go.Proofs.YtblepmmibhphhaaGreatDoor
/- THE CELL 'sum', in the pinned program and in every row, IS THE sha256 OF THE DUMP (.gsa) THAT YtblepmmibhphhaaGreatDoorProg.lean LOADS. Nothing in Lean hashes anything: it is a label: what it is worth is what the hold of that sum in a sandbox is worth. -/
noncomputable def Tryz.pinned : Pinned := { name := "ytblepmmibhphhaagreatdoor", sum := "6ca09b4e366d9db4117534fc9d89af7b65cb86235e5be285f87aed337c9ae38e", checked := Tryz.checked }
namespace Rows
def none {H : Type} : Left H := { results := [], args := [] }

/- WHAT THE LISTED PACKAGE-LEVEL VARIABLES READ AS WHEN THE CALL BEGINS. Each datum BY PROGRAM (the guide's laid-datum.mjs) off the statement by which the dump's own 'gosem.cut.vars' lays the variable. In a bare row this is a premise. The card (YtblepmmibhphhaaGreatDoorCards.lean) ties it to the program's text. -/
def laid_unicode_utf8_acceptRanges {H : Type} : DataW H := .agg [.agg [.lit (.int .u8 128), .lit (.int .u8 191)], .agg [.lit (.int .u8 160), .lit (.int .u8 191)], .agg [.lit (.int .u8 128), .lit (.int .u8 159)], .agg [.lit (.int .u8 144), .lit (.int .u8 191)], .agg [.lit (.int .u8 128), .lit (.int .u8 143)], .agg [.lit (.int .u8 0), .lit (.int .u8 0)], .agg [.lit (.int .u8 0), .lit (.int .u8 0)], .agg [.lit (.int .u8 0), .lit (.int .u8 0)], .agg [.lit (.int .u8 0), .lit (.int .u8 0)], .agg [.lit (.int .u8 0), .lit (.int .u8 0)], .agg [.lit (.int .u8 0), .lit (.int .u8 0)], .agg [.lit (.int .u8 0), .lit (.int .u8 0)], .agg [.lit (.int .u8 0), .lit (.int .u8 0)], .agg [.lit (.int .u8 0), .lit (.int .u8 0)], .agg [.lit (.int .u8 0), .lit (.int .u8 0)], .agg [.lit (.int .u8 0), .lit (.int .u8 0)]]
/-- One of Go's own tables, pinned by name: the form's constant. -/
def laid_unicode_utf8_first : DataW Unit := Go.Pinned.utf8First

/-- 'docstorelaw48.ShardkeyEncodes': WHATEVER THE INPUT: true; the input reads as it did. -/
def shardkeyEncodesSpec : ChangeSpec := { name := "shardkeyEncodes", fn := fun _ => fun
  | [d1, d2] => { results := [.lit (.bool true)], args := [d1, d2] }
  | _ => none }
def shardkeyEncodesRow : OpenClaim := { program := "ytblepmmibhphhaagreatdoor", sum := "6ca09b4e366d9db4117534fc9d89af7b65cb86235e5be285f87aed337c9ae38e", func := "docstore/docstorelaw48.ShardkeyEncodes", spec := "shardkeyEncodes", inPlace := ["internal/bytealg.abigen_runtime_cmpstring"], unfollowed := true, recurses := true, named := ["unicode/utf8.first", "unicode/utf8.acceptRanges"], loops := true, apart := false, laid := [("unicode/utf8.acceptRanges", laid_unicode_utf8_acceptRanges), ("unicode/utf8.first", laid_unicode_utf8_first)] }
def ShardkeyEncodesSaid : Prop := shardkeyEncodesRow.holds Tryz.pinned (OpenSpec.ofChange shardkeyEncodesSpec)

/-- ITS FALSE NEIGHBOUR: 'it returns false'. Refute it at one input. -/
def shardkeyEncodesWrong : ChangeSpec := { name := "shardkeyEncodes", fn := fun _ => fun
  | [d1, d2] => { results := [.lit (.bool false)], args := [d1, d2] }
  | _ => none }
def ShardkeyEncodesWrongFalsely : Prop := shardkeyEncodesRow.holds Tryz.pinned (OpenSpec.ofChange shardkeyEncodesWrong)

/-- 'docstorelaw48.ShardkeyOrder': WHATEVER THE INPUT: true; the input reads as it did. -/
def shardkeyOrderSpec : ChangeSpec := { name := "shardkeyOrder", fn := fun _ => fun
  | [d1, d2, d3] => { results := [.lit (.bool true)], args := [d1, d2, d3] }
  | _ => none }
def shardkeyOrderRow : OpenClaim := { program := "ytblepmmibhphhaagreatdoor", sum := "6ca09b4e366d9db4117534fc9d89af7b65cb86235e5be285f87aed337c9ae38e", func := "docstore/docstorelaw48.ShardkeyOrder", spec := "shardkeyOrder", inPlace := ["internal/bytealg.abigen_runtime_cmpstring"], unfollowed := true, recurses := true, named := ["unicode/utf8.first", "unicode/utf8.acceptRanges"], loops := true, apart := false, laid := [("unicode/utf8.acceptRanges", laid_unicode_utf8_acceptRanges), ("unicode/utf8.first", laid_unicode_utf8_first)] }
def ShardkeyOrderSaid : Prop := shardkeyOrderRow.holds Tryz.pinned (OpenSpec.ofChange shardkeyOrderSpec)

/-- ITS FALSE NEIGHBOUR: 'it returns false'. Refute it at one input. -/
def shardkeyOrderWrong : ChangeSpec := { name := "shardkeyOrder", fn := fun _ => fun
  | [d1, d2, d3] => { results := [.lit (.bool false)], args := [d1, d2, d3] }
  | _ => none }
def ShardkeyOrderWrongFalsely : Prop := shardkeyOrderRow.holds Tryz.pinned (OpenSpec.ofChange shardkeyOrderWrong)

/-- 'docstorelaw50.RouterOwn': WHATEVER THE INPUT: true; the input reads as it did. -/
def routerOwnSpec : ChangeSpec := { name := "routerOwn", fn := fun _ => fun
  | [d1, d2, d3, d4] => { results := [.lit (.bool true)], args := [d1, d2, d3, d4] }
  | _ => none }
def routerOwnRow : OpenClaim := { program := "ytblepmmibhphhaagreatdoor", sum := "6ca09b4e366d9db4117534fc9d89af7b65cb86235e5be285f87aed337c9ae38e", func := "docstore/docstorelaw50.RouterOwn", spec := "routerOwn", inPlace := ["internal/bytealg.abigen_runtime_cmpstring"], unfollowed := true, recurses := true, named := ["unicode/utf8.first", "unicode/utf8.acceptRanges"], loops := true, apart := false, laid := [("unicode/utf8.acceptRanges", laid_unicode_utf8_acceptRanges), ("unicode/utf8.first", laid_unicode_utf8_first)] }
def RouterOwnSaid : Prop := routerOwnRow.holds Tryz.pinned (OpenSpec.ofChange routerOwnSpec)

/-- ITS FALSE NEIGHBOUR: 'it returns false'. Refute it at one input. -/
def routerOwnWrong : ChangeSpec := { name := "routerOwn", fn := fun _ => fun
  | [d1, d2, d3, d4] => { results := [.lit (.bool false)], args := [d1, d2, d3, d4] }
  | _ => none }
def RouterOwnWrongFalsely : Prop := routerOwnRow.holds Tryz.pinned (OpenSpec.ofChange routerOwnWrong)

/-- 'docstorelaw50.RouterCheck': WHATEVER THE INPUT: true; the input reads as it did. -/
def routerCheckSpec : ChangeSpec := { name := "routerCheck", fn := fun _ => fun
  | [d1, d2, d3, d4] => { results := [.lit (.bool true)], args := [d1, d2, d3, d4] }
  | _ => none }
def routerCheckRow : OpenClaim := { program := "ytblepmmibhphhaagreatdoor", sum := "6ca09b4e366d9db4117534fc9d89af7b65cb86235e5be285f87aed337c9ae38e", func := "docstore/docstorelaw50.RouterCheck", spec := "routerCheck", inPlace := ["internal/bytealg.abigen_runtime_cmpstring"], unfollowed := true, recurses := true, named := ["unicode/utf8.first", "unicode/utf8.acceptRanges"], apart := false, laid := [("unicode/utf8.acceptRanges", laid_unicode_utf8_acceptRanges), ("unicode/utf8.first", laid_unicode_utf8_first)] }
def RouterCheckSaid : Prop := routerCheckRow.holds Tryz.pinned (OpenSpec.ofChange routerCheckSpec)

/-- ITS FALSE NEIGHBOUR: 'it returns false'. Refute it at one input. -/
def routerCheckWrong : ChangeSpec := { name := "routerCheck", fn := fun _ => fun
  | [d1, d2, d3, d4] => { results := [.lit (.bool false)], args := [d1, d2, d3, d4] }
  | _ => none }
def RouterCheckWrongFalsely : Prop := routerCheckRow.holds Tryz.pinned (OpenSpec.ofChange routerCheckWrong)

/-- 'docstorelaw50.RouterOne': WHATEVER THE INPUT: true; the input reads as it did. -/
def routerOneSpec : ChangeSpec := { name := "routerOne", fn := fun _ => fun
  | [d1, d2, d3] => { results := [.lit (.bool true)], args := [d1, d2, d3] }
  | _ => none }
def routerOneRow : OpenClaim := { program := "ytblepmmibhphhaagreatdoor", sum := "6ca09b4e366d9db4117534fc9d89af7b65cb86235e5be285f87aed337c9ae38e", func := "docstore/docstorelaw50.RouterOne", spec := "routerOne", inPlace := ["internal/bytealg.abigen_runtime_cmpstring"], unfollowed := true, recurses := true, named := ["unicode/utf8.first", "unicode/utf8.acceptRanges"], loops := true, apart := false, laid := [("unicode/utf8.acceptRanges", laid_unicode_utf8_acceptRanges), ("unicode/utf8.first", laid_unicode_utf8_first)] }
def RouterOneSaid : Prop := routerOneRow.holds Tryz.pinned (OpenSpec.ofChange routerOneSpec)

/-- ITS FALSE NEIGHBOUR: 'it returns false'. Refute it at one input. -/
def routerOneWrong : ChangeSpec := { name := "routerOne", fn := fun _ => fun
  | [d1, d2, d3] => { results := [.lit (.bool false)], args := [d1, d2, d3] }
  | _ => none }
def RouterOneWrongFalsely : Prop := routerOneRow.holds Tryz.pinned (OpenSpec.ofChange routerOneWrong)

/-- 'docstorelaw50.RouterMoved': WHATEVER THE INPUT: true; the input reads as it did. -/
def routerMovedSpec : ChangeSpec := { name := "routerMoved", fn := fun _ => fun
  | [d1, d2, d3, d4] => { results := [.lit (.bool true)], args := [d1, d2, d3, d4] }
  | _ => none }
def routerMovedRow : OpenClaim := { program := "ytblepmmibhphhaagreatdoor", sum := "6ca09b4e366d9db4117534fc9d89af7b65cb86235e5be285f87aed337c9ae38e", func := "docstore/docstorelaw50.RouterMoved", spec := "routerMoved", inPlace := ["internal/bytealg.abigen_runtime_cmpstring"], unfollowed := true, recurses := true, named := ["unicode/utf8.first", "unicode/utf8.acceptRanges"], apart := false, laid := [("unicode/utf8.acceptRanges", laid_unicode_utf8_acceptRanges), ("unicode/utf8.first", laid_unicode_utf8_first)] }
def RouterMovedSaid : Prop := routerMovedRow.holds Tryz.pinned (OpenSpec.ofChange routerMovedSpec)

/-- ITS FALSE NEIGHBOUR: 'it returns false'. Refute it at one input. -/
def routerMovedWrong : ChangeSpec := { name := "routerMoved", fn := fun _ => fun
  | [d1, d2, d3, d4] => { results := [.lit (.bool false)], args := [d1, d2, d3, d4] }
  | _ => none }
def RouterMovedWrongFalsely : Prop := routerMovedRow.holds Tryz.pinned (OpenSpec.ofChange routerMovedWrong)

/- THE SECOND FORM. 'bulk': how many values and letters a reading holds, each counted each time it is reached (what is shared counts as often as it is met; a slice's spare places count too). A statement '..UptoSaid' is the law's where the arguments, and the package variables that the reading takes, are together of bulk at most 1048576: NARROWER than '..Said'. Prove '..Said' where nothing that the law and all that it calls make is longer than what came in: it says more and counts as full. Else prove '..UptoSaid'. A law counts once. -/
mutual
def uptoBulk {H : Type} : DataW H → Nat
  | .lit (.string bytes) => bytes.length + 1
  | .lit _ => 1
  | .nil => 1
  | .ptr d => uptoBulk d + 1
  | .slice elems spare => uptoBulkAll elems + uptoBulkAll spare + 1
  | .agg parts => uptoBulkAll parts + 1
  | .iface _ d => uptoBulk d + 1
  | .map entries => uptoBulkEntries entries + 1
  | .held _ => 1
def uptoBulkAll {H : Type} : List (DataW H) → Nat
  | [] => 0
  | d :: r => uptoBulk d + uptoBulkAll r
def uptoBulkEntries {H : Type} : List (Lit × DataW H) → Nat
  | [] => 0
  | x :: r => uptoBulkEntry x + uptoBulkEntries r
def uptoBulkEntry {H : Type} : Lit × DataW H → Nat
  | (.string bytes, d) => bytes.length + uptoBulk d + 1
  | (_, d) => uptoBulk d + 1
 end
def uptoSmall : (H : Type) → List (DataW H) → Bool := fun _ ds => decide (uptoBulkAll ds ≤ 1048576)
def OpenSpec.upto (s : _root_.Go.ChangeSpec) : _root_.Go.OpenSpec := { _root_.Go.OpenSpec.ofChange s with cond := some uptoSmall }

/-- 'docstorelaw48.ShardkeyEncodes', WHERE WHAT IT READS IS OF BULK AT MOST 1048576: true; the input reads as it did. -/
def shardkeyEncodesUptoRow : OpenClaim := { program := "ytblepmmibhphhaagreatdoor", sum := "6ca09b4e366d9db4117534fc9d89af7b65cb86235e5be285f87aed337c9ae38e", func := "docstore/docstorelaw48.ShardkeyEncodes", spec := "shardkeyEncodes", inPlace := ["internal/bytealg.abigen_runtime_cmpstring"], unfollowed := true, recurses := true, named := ["unicode/utf8.first", "unicode/utf8.acceptRanges"], loops := true, apart := false, laid := [("unicode/utf8.acceptRanges", laid_unicode_utf8_acceptRanges), ("unicode/utf8.first", laid_unicode_utf8_first)], narrowed := true }
def ShardkeyEncodesUptoSaid : Prop := shardkeyEncodesUptoRow.holds Tryz.pinned (OpenSpec.upto shardkeyEncodesSpec)

/-- 'docstorelaw48.ShardkeyOrder', WHERE WHAT IT READS IS OF BULK AT MOST 1048576: true; the input reads as it did. -/
def shardkeyOrderUptoRow : OpenClaim := { program := "ytblepmmibhphhaagreatdoor", sum := "6ca09b4e366d9db4117534fc9d89af7b65cb86235e5be285f87aed337c9ae38e", func := "docstore/docstorelaw48.ShardkeyOrder", spec := "shardkeyOrder", inPlace := ["internal/bytealg.abigen_runtime_cmpstring"], unfollowed := true, recurses := true, named := ["unicode/utf8.first", "unicode/utf8.acceptRanges"], loops := true, apart := false, laid := [("unicode/utf8.acceptRanges", laid_unicode_utf8_acceptRanges), ("unicode/utf8.first", laid_unicode_utf8_first)], narrowed := true }
def ShardkeyOrderUptoSaid : Prop := shardkeyOrderUptoRow.holds Tryz.pinned (OpenSpec.upto shardkeyOrderSpec)

/-- 'docstorelaw50.RouterOwn', WHERE WHAT IT READS IS OF BULK AT MOST 1048576: true; the input reads as it did. -/
def routerOwnUptoRow : OpenClaim := { program := "ytblepmmibhphhaagreatdoor", sum := "6ca09b4e366d9db4117534fc9d89af7b65cb86235e5be285f87aed337c9ae38e", func := "docstore/docstorelaw50.RouterOwn", spec := "routerOwn", inPlace := ["internal/bytealg.abigen_runtime_cmpstring"], unfollowed := true, recurses := true, named := ["unicode/utf8.first", "unicode/utf8.acceptRanges"], loops := true, apart := false, laid := [("unicode/utf8.acceptRanges", laid_unicode_utf8_acceptRanges), ("unicode/utf8.first", laid_unicode_utf8_first)], narrowed := true }
def RouterOwnUptoSaid : Prop := routerOwnUptoRow.holds Tryz.pinned (OpenSpec.upto routerOwnSpec)

/-- 'docstorelaw50.RouterCheck', WHERE WHAT IT READS IS OF BULK AT MOST 1048576: true; the input reads as it did. -/
def routerCheckUptoRow : OpenClaim := { program := "ytblepmmibhphhaagreatdoor", sum := "6ca09b4e366d9db4117534fc9d89af7b65cb86235e5be285f87aed337c9ae38e", func := "docstore/docstorelaw50.RouterCheck", spec := "routerCheck", inPlace := ["internal/bytealg.abigen_runtime_cmpstring"], unfollowed := true, recurses := true, named := ["unicode/utf8.first", "unicode/utf8.acceptRanges"], apart := false, laid := [("unicode/utf8.acceptRanges", laid_unicode_utf8_acceptRanges), ("unicode/utf8.first", laid_unicode_utf8_first)], narrowed := true }
def RouterCheckUptoSaid : Prop := routerCheckUptoRow.holds Tryz.pinned (OpenSpec.upto routerCheckSpec)

/-- 'docstorelaw50.RouterOne', WHERE WHAT IT READS IS OF BULK AT MOST 1048576: true; the input reads as it did. -/
def routerOneUptoRow : OpenClaim := { program := "ytblepmmibhphhaagreatdoor", sum := "6ca09b4e366d9db4117534fc9d89af7b65cb86235e5be285f87aed337c9ae38e", func := "docstore/docstorelaw50.RouterOne", spec := "routerOne", inPlace := ["internal/bytealg.abigen_runtime_cmpstring"], unfollowed := true, recurses := true, named := ["unicode/utf8.first", "unicode/utf8.acceptRanges"], loops := true, apart := false, laid := [("unicode/utf8.acceptRanges", laid_unicode_utf8_acceptRanges), ("unicode/utf8.first", laid_unicode_utf8_first)], narrowed := true }
def RouterOneUptoSaid : Prop := routerOneUptoRow.holds Tryz.pinned (OpenSpec.upto routerOneSpec)

/-- 'docstorelaw50.RouterMoved', WHERE WHAT IT READS IS OF BULK AT MOST 1048576: true; the input reads as it did. -/
def routerMovedUptoRow : OpenClaim := { program := "ytblepmmibhphhaagreatdoor", sum := "6ca09b4e366d9db4117534fc9d89af7b65cb86235e5be285f87aed337c9ae38e", func := "docstore/docstorelaw50.RouterMoved", spec := "routerMoved", inPlace := ["internal/bytealg.abigen_runtime_cmpstring"], unfollowed := true, recurses := true, named := ["unicode/utf8.first", "unicode/utf8.acceptRanges"], apart := false, laid := [("unicode/utf8.acceptRanges", laid_unicode_utf8_acceptRanges), ("unicode/utf8.first", laid_unicode_utf8_first)], narrowed := true }
def RouterMovedUptoSaid : Prop := routerMovedUptoRow.holds Tryz.pinned (OpenSpec.upto routerMovedSpec)

end Rows
end Go.Proofs.YtblepmmibhphhaaGreatDoor
