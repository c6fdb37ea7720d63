/-
  NARROWER THAN 'FOR EVERY INPUT', by the rows' own cells (each row's printed sentence says how): ShardkeyContains: loops, laid · RouterFound: loops, laid · BoundsContain: loops, laid.
  DERIVED. THE GIVEN ROWS OF THIS SEAT. 3 by the template 'for every input the law returns true; each argument reads behind the call as it read before'; 0 by the template 'total and deterministic' (their statements: YtgfoliedmhgpnaaGreatDoorTotals.lean).
  GIVEN WITH THE SEED: the statements are not yours to turn. If you find one false, say at which input.
  Laid BY PROGRAM, IN A SANDBOX (cutbox-rows.mjs): the forced cells as the released guide's own fill.sh prints them over the translation a5fdf256ac683e94… (all of the seat's roots in one cut). By AI agents, Wed Nov 11 2026. No macro, syntax, notation, axiom, sorry.
-/
import Derived.Test.YtgfoliedmhgpnaaGreatDoorChecked
import GoSem.PinnedTables
import GoSem.Claim
import GoSem.ClaimJoined
import GoSem.ClaimMapViews
import Derived.JoinedTies
import Derived.KernelRfl
namespace Go.Proofs.YtgfoliedmhgpnaaGreatDoor
/- THE CELL 'sum', in the pinned program and in every row, IS THE sha256 OF THE DUMP (.gsa) THAT YtgfoliedmhgpnaaGreatDoorProg.lean LOADS. Nothing in Lean hashes anything: it is a label: what it is worth is what the hold of that sum in a sandbox is worth. -/
noncomputable def Tryz.pinned : Pinned := { name := "ytgfoliedmhgpnaagreatdoor", sum := "a5fdf256ac683e941b7e831afee201bb6a4b456fba854c41e32f4a8563085254", checked := Tryz.checked }
namespace Rows
def none {H : Type} : Left H := { results := [], args := [] }

/- WHAT THE LISTED PACKAGE-LEVEL VARIABLES READ AS WHEN THE CALL BEGINS. Each datum BY PROGRAM (the guide's laid-datum.mjs) off the statement by which the dump's own 'gosem.cut.vars' lays the variable. In a bare row this is a premise. The card (YtgfoliedmhgpnaaGreatDoorCards.lean) ties it to the program's text. -/
def laid_docstore_docstoreref09_Stops {H : Type} : DataW H := .agg [.lit (.string [97]), .lit (.string [97, 110]), .lit (.string [97, 110, 100]), .lit (.string [97, 114, 101]), .lit (.string [97, 115]), .lit (.string [97, 116]), .lit (.string [98, 101]), .lit (.string [98, 121]), .lit (.string [102, 111, 114]), .lit (.string [102, 114, 111, 109]), .lit (.string [105, 110]), .lit (.string [105, 115]), .lit (.string [105, 116]), .lit (.string [111, 102]), .lit (.string [111, 110]), .lit (.string [111, 114]), .lit (.string [116, 104, 97, 116]), .lit (.string [116, 104, 101]), .lit (.string [116, 111]), .lit (.string [119, 105, 116, 104])]
def laid_unicode_utf8_acceptRanges {H : Type} : DataW H := .agg [.agg [.lit (.int .u8 128), .lit (.int .u8 191)], .agg [.lit (.int .u8 160), .lit (.int .u8 191)], .agg [.lit (.int .u8 128), .lit (.int .u8 159)], .agg [.lit (.int .u8 144), .lit (.int .u8 191)], .agg [.lit (.int .u8 128), .lit (.int .u8 143)], .agg [.lit (.int .u8 0), .lit (.int .u8 0)], .agg [.lit (.int .u8 0), .lit (.int .u8 0)], .agg [.lit (.int .u8 0), .lit (.int .u8 0)], .agg [.lit (.int .u8 0), .lit (.int .u8 0)], .agg [.lit (.int .u8 0), .lit (.int .u8 0)], .agg [.lit (.int .u8 0), .lit (.int .u8 0)], .agg [.lit (.int .u8 0), .lit (.int .u8 0)], .agg [.lit (.int .u8 0), .lit (.int .u8 0)], .agg [.lit (.int .u8 0), .lit (.int .u8 0)], .agg [.lit (.int .u8 0), .lit (.int .u8 0)], .agg [.lit (.int .u8 0), .lit (.int .u8 0)]]
/-- One of Go's own tables, pinned by name: the form's constant. -/
def laid_unicode_utf8_first : DataW Unit := Go.Pinned.utf8First
def laid_docstore_expr_names {H : Type} : DataW H := .agg [.lit (.string []), .lit (.string [36, 118, 97, 108, 117, 101]), .lit (.string []), .lit (.string []), .lit (.string [36, 97, 100, 100]), .lit (.string [36, 115, 117, 98]), .lit (.string [36, 109, 117, 108]), .lit (.string [36, 100, 105, 118]), .lit (.string [36, 109, 111, 100]), .lit (.string [36, 99, 109, 112]), .lit (.string [36, 101, 113]), .lit (.string [36, 110, 101]), .lit (.string [36, 103, 116]), .lit (.string [36, 103, 101]), .lit (.string [36, 108, 116]), .lit (.string [36, 108, 101]), .lit (.string [36, 97, 110, 100]), .lit (.string [36, 111, 114]), .lit (.string [36, 110, 111, 116]), .lit (.string [36, 105, 102]), .lit (.string [36, 105, 102, 78, 117, 108, 108]), .lit (.string [36, 99, 111, 110, 99, 97, 116]), .lit (.string [36, 108, 111, 119, 101, 114]), .lit (.string [36, 117, 112, 112, 101, 114]), .lit (.string [36, 108, 101, 110, 103, 116, 104]), .lit (.string [36, 115, 108, 105, 99, 101]), .lit (.string [36, 115, 105, 122, 101]), .lit (.string [36, 97, 116]), .lit (.string [36, 105, 110]), .lit (.string [36, 106, 111, 105, 110]), .lit (.string [36, 114, 101, 118, 101, 114, 115, 101]), .lit (.string [36, 115, 117, 109]), .lit (.string [36, 109, 97, 112]), .lit (.string [36, 102, 105, 108, 116, 101, 114]), .lit (.string []), .lit (.string []), .lit (.string [36, 107, 105, 110, 100]), .lit (.string [36, 109, 101, 114, 103, 101])]
def laid_docstore_predicate_names {H : Type} : DataW H := .agg [.lit (.string []), .lit (.string []), .lit (.string [36, 101, 113]), .lit (.string [36, 110, 101]), .lit (.string [36, 103, 116]), .lit (.string [36, 103, 101]), .lit (.string [36, 108, 116]), .lit (.string [36, 108, 101]), .lit (.string [36, 105, 110]), .lit (.string [36, 110, 111, 116, 73, 110]), .lit (.string [36, 101, 120, 105, 115, 116, 115]), .lit (.string [36, 107, 105, 110, 100]), .lit (.string [36, 109, 111, 100]), .lit (.string [36, 115, 105, 122, 101]), .lit (.string [36, 97, 108, 108]), .lit (.string [36, 101, 108, 101, 109]), .lit (.string [36, 112, 114, 101, 102, 105, 120]), .lit (.string [36, 108, 105, 107, 101]), .lit (.string [36, 119, 105, 116, 104, 105, 110]), .lit (.string [36, 119, 111, 114, 100, 115]), .lit (.string []), .lit (.string []), .lit (.string []), .lit (.string [36, 110, 111, 116]), .lit (.string [])]

/-- 'docstorelaw48.ShardkeyContains': WHATEVER THE INPUT: true; the input reads as it did. -/
def shardkeyContainsSpec : ChangeSpec := { name := "shardkeyContains", fn := fun _ => fun
  | [d1, d2, d3] => { results := [.lit (.bool true)], args := [d1, d2, d3] }
  | _ => none }
def shardkeyContainsRow : OpenClaim := { program := "ytgfoliedmhgpnaagreatdoor", sum := "a5fdf256ac683e941b7e831afee201bb6a4b456fba854c41e32f4a8563085254", func := "docstore/docstorelaw48.ShardkeyContains", spec := "shardkeyContains", inPlace := ["internal/bytealg.abigen_runtime_cmpstring"], unfollowed := true, recurses := true, named := ["unicode/utf8.first", "unicode/utf8.acceptRanges", "docstore/docstoreref09.Stops"], loops := true, apart := false, laid := [("docstore/docstoreref09.Stops", laid_docstore_docstoreref09_Stops), ("unicode/utf8.acceptRanges", laid_unicode_utf8_acceptRanges), ("unicode/utf8.first", laid_unicode_utf8_first)] }
def ShardkeyContainsSaid : Prop := shardkeyContainsRow.holds Tryz.pinned (OpenSpec.ofChange shardkeyContainsSpec)

/-- ITS FALSE NEIGHBOUR: 'it returns false'. Refute it at one input. -/
def shardkeyContainsWrong : ChangeSpec := { name := "shardkeyContains", fn := fun _ => fun
  | [d1, d2, d3] => { results := [.lit (.bool false)], args := [d1, d2, d3] }
  | _ => none }
def ShardkeyContainsWrongFalsely : Prop := shardkeyContainsRow.holds Tryz.pinned (OpenSpec.ofChange shardkeyContainsWrong)

/-- 'docstorelaw50.RouterFound': WHATEVER THE INPUT: true; the input reads as it did. -/
def routerFoundSpec : ChangeSpec := { name := "routerFound", fn := fun _ => fun
  | [d1, d2, d3] => { results := [.lit (.bool true)], args := [d1, d2, d3] }
  | _ => none }
def routerFoundRow : OpenClaim := { program := "ytgfoliedmhgpnaagreatdoor", sum := "a5fdf256ac683e941b7e831afee201bb6a4b456fba854c41e32f4a8563085254", func := "docstore/docstorelaw50.RouterFound", spec := "routerFound", inPlace := ["internal/bytealg.abigen_runtime_cmpstring"], unfollowed := true, recurses := true, named := ["unicode/utf8.first", "unicode/utf8.acceptRanges", "docstore/docstoreref09.Stops"], loops := true, apart := false, laid := [("docstore/docstoreref09.Stops", laid_docstore_docstoreref09_Stops), ("unicode/utf8.acceptRanges", laid_unicode_utf8_acceptRanges), ("unicode/utf8.first", laid_unicode_utf8_first)] }
def RouterFoundSaid : Prop := routerFoundRow.holds Tryz.pinned (OpenSpec.ofChange routerFoundSpec)

/-- ITS FALSE NEIGHBOUR: 'it returns false'. Refute it at one input. -/
def routerFoundWrong : ChangeSpec := { name := "routerFound", fn := fun _ => fun
  | [d1, d2, d3] => { results := [.lit (.bool false)], args := [d1, d2, d3] }
  | _ => none }
def RouterFoundWrongFalsely : Prop := routerFoundRow.holds Tryz.pinned (OpenSpec.ofChange routerFoundWrong)

/-- 'docstorelaw25.BoundsContain': WHATEVER THE INPUT: true; the input reads as it did. -/
def boundsContainSpec : ChangeSpec := { name := "boundsContain", fn := fun _ => fun
  | [d1, d2, d3] => { results := [.lit (.bool true)], args := [d1, d2, d3] }
  | _ => none }
def boundsContainRow : OpenClaim := { program := "ytgfoliedmhgpnaagreatdoor", sum := "a5fdf256ac683e941b7e831afee201bb6a4b456fba854c41e32f4a8563085254", func := "docstore/docstorelaw25.BoundsContain", spec := "boundsContain", inPlace := ["internal/bytealg.abigen_runtime_cmpstring", "internal/abi.NoEscape", "internal/bytealg.MakeNoZero", "slices.overlaps[docstore/api.Value]"], unfollowed := true, recurses := true, named := ["unicode/utf8.first", "unicode/utf8.acceptRanges", "docstore/expr.names", "docstore/predicate.names", "docstore/docstoreref09.Stops"], loops := true, apart := false, laid := [("docstore/docstoreref09.Stops", laid_docstore_docstoreref09_Stops), ("unicode/utf8.acceptRanges", laid_unicode_utf8_acceptRanges), ("docstore/expr.names", laid_docstore_expr_names), ("docstore/predicate.names", laid_docstore_predicate_names), ("unicode/utf8.first", laid_unicode_utf8_first)] }
def BoundsContainSaid : Prop := boundsContainRow.holds Tryz.pinned (OpenSpec.ofChange boundsContainSpec)

/-- ITS FALSE NEIGHBOUR: 'it returns false'. Refute it at one input. -/
def boundsContainWrong : ChangeSpec := { name := "boundsContain", fn := fun _ => fun
  | [d1, d2, d3] => { results := [.lit (.bool false)], args := [d1, d2, d3] }
  | _ => none }
def BoundsContainWrongFalsely : Prop := boundsContainRow.holds Tryz.pinned (OpenSpec.ofChange boundsContainWrong)

/- THE SECOND FORM. 'bulk': how many values and letters a reading holds, each counted each time it is reached (what is shared counts as often as it is met; a slice's spare places count too). A statement '..UptoSaid' is the law's where the arguments, and the package variables that the reading takes, are together of bulk at most 1048576: NARROWER than '..Said'. Prove '..Said' where nothing that the law and all that it calls make is longer than what came in: it says more and counts as full. Else prove '..UptoSaid'. A law counts once. -/
mutual
def uptoBulk {H : Type} : DataW H → Nat
  | .lit (.string bytes) => bytes.length + 1
  | .lit _ => 1
  | .nil => 1
  | .ptr d => uptoBulk d + 1
  | .slice elems spare => uptoBulkAll elems + uptoBulkAll spare + 1
  | .agg parts => uptoBulkAll parts + 1
  | .iface _ d => uptoBulk d + 1
  | .map entries => uptoBulkEntries entries + 1
  | .held _ => 1
def uptoBulkAll {H : Type} : List (DataW H) → Nat
  | [] => 0
  | d :: r => uptoBulk d + uptoBulkAll r
def uptoBulkEntries {H : Type} : List (Lit × DataW H) → Nat
  | [] => 0
  | x :: r => uptoBulkEntry x + uptoBulkEntries r
def uptoBulkEntry {H : Type} : Lit × DataW H → Nat
  | (.string bytes, d) => bytes.length + uptoBulk d + 1
  | (_, d) => uptoBulk d + 1
 end
def uptoSmall : (H : Type) → List (DataW H) → Bool := fun _ ds => decide (uptoBulkAll ds ≤ 1048576)
def OpenSpec.upto (s : _root_.Go.ChangeSpec) : _root_.Go.OpenSpec := { _root_.Go.OpenSpec.ofChange s with cond := some uptoSmall }

/-- 'docstorelaw48.ShardkeyContains', WHERE WHAT IT READS IS OF BULK AT MOST 1048576: true; the input reads as it did. -/
def shardkeyContainsUptoRow : OpenClaim := { program := "ytgfoliedmhgpnaagreatdoor", sum := "a5fdf256ac683e941b7e831afee201bb6a4b456fba854c41e32f4a8563085254", func := "docstore/docstorelaw48.ShardkeyContains", spec := "shardkeyContains", inPlace := ["internal/bytealg.abigen_runtime_cmpstring"], unfollowed := true, recurses := true, named := ["unicode/utf8.first", "unicode/utf8.acceptRanges", "docstore/docstoreref09.Stops"], loops := true, apart := false, laid := [("docstore/docstoreref09.Stops", laid_docstore_docstoreref09_Stops), ("unicode/utf8.acceptRanges", laid_unicode_utf8_acceptRanges), ("unicode/utf8.first", laid_unicode_utf8_first)], narrowed := true }
def ShardkeyContainsUptoSaid : Prop := shardkeyContainsUptoRow.holds Tryz.pinned (OpenSpec.upto shardkeyContainsSpec)

/-- 'docstorelaw50.RouterFound', WHERE WHAT IT READS IS OF BULK AT MOST 1048576: true; the input reads as it did. -/
def routerFoundUptoRow : OpenClaim := { program := "ytgfoliedmhgpnaagreatdoor", sum := "a5fdf256ac683e941b7e831afee201bb6a4b456fba854c41e32f4a8563085254", func := "docstore/docstorelaw50.RouterFound", spec := "routerFound", inPlace := ["internal/bytealg.abigen_runtime_cmpstring"], unfollowed := true, recurses := true, named := ["unicode/utf8.first", "unicode/utf8.acceptRanges", "docstore/docstoreref09.Stops"], loops := true, apart := false, laid := [("docstore/docstoreref09.Stops", laid_docstore_docstoreref09_Stops), ("unicode/utf8.acceptRanges", laid_unicode_utf8_acceptRanges), ("unicode/utf8.first", laid_unicode_utf8_first)], narrowed := true }
def RouterFoundUptoSaid : Prop := routerFoundUptoRow.holds Tryz.pinned (OpenSpec.upto routerFoundSpec)

/-- 'docstorelaw25.BoundsContain', WHERE WHAT IT READS IS OF BULK AT MOST 1048576: true; the input reads as it did. -/
def boundsContainUptoRow : OpenClaim := { program := "ytgfoliedmhgpnaagreatdoor", sum := "a5fdf256ac683e941b7e831afee201bb6a4b456fba854c41e32f4a8563085254", func := "docstore/docstorelaw25.BoundsContain", spec := "boundsContain", inPlace := ["internal/bytealg.abigen_runtime_cmpstring", "internal/abi.NoEscape", "internal/bytealg.MakeNoZero", "slices.overlaps[docstore/api.Value]"], unfollowed := true, recurses := true, named := ["unicode/utf8.first", "unicode/utf8.acceptRanges", "docstore/expr.names", "docstore/predicate.names", "docstore/docstoreref09.Stops"], loops := true, apart := false, laid := [("docstore/docstoreref09.Stops", laid_docstore_docstoreref09_Stops), ("unicode/utf8.acceptRanges", laid_unicode_utf8_acceptRanges), ("docstore/expr.names", laid_docstore_expr_names), ("docstore/predicate.names", laid_docstore_predicate_names), ("unicode/utf8.first", laid_unicode_utf8_first)], narrowed := true }
def BoundsContainUptoSaid : Prop := boundsContainUptoRow.holds Tryz.pinned (OpenSpec.upto boundsContainSpec)

end Rows
end Go.Proofs.YtgfoliedmhgpnaaGreatDoor
