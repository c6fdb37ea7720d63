/-
  NARROWER THAN 'FOR EVERY INPUT', by the rows' own cells (each row's printed sentence says how): GeoPoints: loops · GeoShapes: loops.
  DERIVED. THE GIVEN ROWS OF THIS SEAT. 7 by the template 'for every input the law returns true; each argument reads behind the call as it read before'; 0 by the template 'total and deterministic' (their statements: YtefolbfopjfbcaaTotals.lean).
  GIVEN WITH THE SEED: the statements are not yours to turn. If you find one false, say at which input.
  Laid BY PROGRAM, IN A SANDBOX (cutbox-rows.mjs): the forced cells as the released guide's own fill.sh prints them over the translation 4f799a747d325bd2… (all of the seat's roots in one cut). By AI agents, Wed Nov 11 2026. No macro, syntax, notation, axiom, sorry.
-/
import Derived.Test.YtefolbfopjfbcaaChecked
import GoSem.Claim
import GoSem.ClaimJoined
import GoSem.ClaimMapViews
import Derived.JoinedTies
import Derived.KernelRfl
namespace Go.Proofs.Ytefolbfopjfbcaa
/- THE CELL 'sum', in the pinned program and in every row, IS THE sha256 OF THE DUMP (.gsa) THAT YtefolbfopjfbcaaProg.lean LOADS. Nothing in Lean hashes anything: it is a label: what it is worth is what the hold of that sum in a sandbox is worth. -/
noncomputable def Try.pinned : Pinned := { name := "ytefolbfopjfbcaa", sum := "4f799a747d325bd206dd035a9a37a1c130de8501d7679c780e71e122efff3698", checked := Try.checked }
namespace Rows
def none {H : Type} : Left H := { results := [], args := [] }

/-- 'docstorelaw10.GeoPoints': WHATEVER THE INPUT: true; the input reads as it did. -/
def geoPointsSpec : ChangeSpec := { name := "geoPoints", fn := fun _ => fun
  | [d] => { results := [.lit (.bool true)], args := [d] }
  | _ => none }
def geoPointsRow : OpenClaim := { program := "ytefolbfopjfbcaa", sum := "4f799a747d325bd206dd035a9a37a1c130de8501d7679c780e71e122efff3698", func := "docstore/docstorelaw10.GeoPoints", spec := "geoPoints", unfollowed := true, recurses := true, loops := true, apart := false }
def GeoPointsSaid : Prop := geoPointsRow.holds Try.pinned (OpenSpec.ofChange geoPointsSpec)

/-- ITS FALSE NEIGHBOUR: 'it returns false'. Refute it at one input. -/
def geoPointsWrong : ChangeSpec := { name := "geoPoints", fn := fun _ => fun
  | [d] => { results := [.lit (.bool false)], args := [d] }
  | _ => none }
def GeoPointsWrongFalsely : Prop := geoPointsRow.holds Try.pinned (OpenSpec.ofChange geoPointsWrong)

/-- 'docstorelaw10.GeoInsides': WHATEVER THE INPUT: true; the input reads as it did. -/
def geoInsidesSpec : ChangeSpec := { name := "geoInsides", fn := fun _ => fun
  | [d1, d2] => { results := [.lit (.bool true)], args := [d1, d2] }
  | _ => none }
def geoInsidesRow : OpenClaim := { program := "ytefolbfopjfbcaa", sum := "4f799a747d325bd206dd035a9a37a1c130de8501d7679c780e71e122efff3698", func := "docstore/docstorelaw10.GeoInsides", spec := "geoInsides", unfollowed := true, recurses := true, apart := false }
def GeoInsidesSaid : Prop := geoInsidesRow.holds Try.pinned (OpenSpec.ofChange geoInsidesSpec)

/-- ITS FALSE NEIGHBOUR: 'it returns false'. Refute it at one input. -/
def geoInsidesWrong : ChangeSpec := { name := "geoInsides", fn := fun _ => fun
  | [d1, d2] => { results := [.lit (.bool false)], args := [d1, d2] }
  | _ => none }
def GeoInsidesWrongFalsely : Prop := geoInsidesRow.holds Try.pinned (OpenSpec.ofChange geoInsidesWrong)

/-- 'docstorelaw10.GeoTurns': WHATEVER THE INPUT: true; the input reads as it did. -/
def geoTurnsSpec : ChangeSpec := { name := "geoTurns", fn := fun _ => fun
  | [d1, d2, d3] => { results := [.lit (.bool true)], args := [d1, d2, d3] }
  | _ => none }
def geoTurnsRow : OpenClaim := { program := "ytefolbfopjfbcaa", sum := "4f799a747d325bd206dd035a9a37a1c130de8501d7679c780e71e122efff3698", func := "docstore/docstorelaw10.GeoTurns", spec := "geoTurns", unfollowed := true, recurses := true, apart := false }
def GeoTurnsSaid : Prop := geoTurnsRow.holds Try.pinned (OpenSpec.ofChange geoTurnsSpec)

/-- ITS FALSE NEIGHBOUR: 'it returns false'. Refute it at one input. -/
def geoTurnsWrong : ChangeSpec := { name := "geoTurns", fn := fun _ => fun
  | [d1, d2, d3] => { results := [.lit (.bool false)], args := [d1, d2, d3] }
  | _ => none }
def GeoTurnsWrongFalsely : Prop := geoTurnsRow.holds Try.pinned (OpenSpec.ofChange geoTurnsWrong)

/-- 'docstorelaw10.GeoCells': WHATEVER THE INPUT: true; the input reads as it did. -/
def geoCellsSpec : ChangeSpec := { name := "geoCells", fn := fun _ => fun
  | [d1, d2] => { results := [.lit (.bool true)], args := [d1, d2] }
  | _ => none }
def geoCellsRow : OpenClaim := { program := "ytefolbfopjfbcaa", sum := "4f799a747d325bd206dd035a9a37a1c130de8501d7679c780e71e122efff3698", func := "docstore/docstorelaw10.GeoCells", spec := "geoCells", unfollowed := true, recurses := true, apart := false }
def GeoCellsSaid : Prop := geoCellsRow.holds Try.pinned (OpenSpec.ofChange geoCellsSpec)

/-- ITS FALSE NEIGHBOUR: 'it returns false'. Refute it at one input. -/
def geoCellsWrong : ChangeSpec := { name := "geoCells", fn := fun _ => fun
  | [d1, d2] => { results := [.lit (.bool false)], args := [d1, d2] }
  | _ => none }
def GeoCellsWrongFalsely : Prop := geoCellsRow.holds Try.pinned (OpenSpec.ofChange geoCellsWrong)

/-- 'docstorelaw10.GeoCovers': WHATEVER THE INPUT: true; the input reads as it did. -/
def geoCoversSpec : ChangeSpec := { name := "geoCovers", fn := fun _ => fun
  | [d1, d2, d3] => { results := [.lit (.bool true)], args := [d1, d2, d3] }
  | _ => none }
def geoCoversRow : OpenClaim := { program := "ytefolbfopjfbcaa", sum := "4f799a747d325bd206dd035a9a37a1c130de8501d7679c780e71e122efff3698", func := "docstore/docstorelaw10.GeoCovers", spec := "geoCovers", unfollowed := true, recurses := true, apart := false }
def GeoCoversSaid : Prop := geoCoversRow.holds Try.pinned (OpenSpec.ofChange geoCoversSpec)

/-- ITS FALSE NEIGHBOUR: 'it returns false'. Refute it at one input. -/
def geoCoversWrong : ChangeSpec := { name := "geoCovers", fn := fun _ => fun
  | [d1, d2, d3] => { results := [.lit (.bool false)], args := [d1, d2, d3] }
  | _ => none }
def GeoCoversWrongFalsely : Prop := geoCoversRow.holds Try.pinned (OpenSpec.ofChange geoCoversWrong)

/-- 'docstorelaw10.GeoCircles': WHATEVER THE INPUT: true; the input reads as it did. -/
def geoCirclesSpec : ChangeSpec := { name := "geoCircles", fn := fun _ => fun
  | [d1, d2, d3] => { results := [.lit (.bool true)], args := [d1, d2, d3] }
  | _ => none }
def geoCirclesRow : OpenClaim := { program := "ytefolbfopjfbcaa", sum := "4f799a747d325bd206dd035a9a37a1c130de8501d7679c780e71e122efff3698", func := "docstore/docstorelaw10.GeoCircles", spec := "geoCircles", unfollowed := true, recurses := true, apart := false }
def GeoCirclesSaid : Prop := geoCirclesRow.holds Try.pinned (OpenSpec.ofChange geoCirclesSpec)

/-- ITS FALSE NEIGHBOUR: 'it returns false'. Refute it at one input. -/
def geoCirclesWrong : ChangeSpec := { name := "geoCircles", fn := fun _ => fun
  | [d1, d2, d3] => { results := [.lit (.bool false)], args := [d1, d2, d3] }
  | _ => none }
def GeoCirclesWrongFalsely : Prop := geoCirclesRow.holds Try.pinned (OpenSpec.ofChange geoCirclesWrong)

/-- 'docstorelaw10.GeoShapes': WHATEVER THE INPUT: true; the input reads as it did. -/
def geoShapesSpec : ChangeSpec := { name := "geoShapes", fn := fun _ => fun
  | [d1, d2] => { results := [.lit (.bool true)], args := [d1, d2] }
  | _ => none }
def geoShapesRow : OpenClaim := { program := "ytefolbfopjfbcaa", sum := "4f799a747d325bd206dd035a9a37a1c130de8501d7679c780e71e122efff3698", func := "docstore/docstorelaw10.GeoShapes", spec := "geoShapes", unfollowed := true, recurses := true, loops := true, apart := false }
def GeoShapesSaid : Prop := geoShapesRow.holds Try.pinned (OpenSpec.ofChange geoShapesSpec)

/-- ITS FALSE NEIGHBOUR: 'it returns false'. Refute it at one input. -/
def geoShapesWrong : ChangeSpec := { name := "geoShapes", fn := fun _ => fun
  | [d1, d2] => { results := [.lit (.bool false)], args := [d1, d2] }
  | _ => none }
def GeoShapesWrongFalsely : Prop := geoShapesRow.holds Try.pinned (OpenSpec.ofChange geoShapesWrong)

/- THE SECOND FORM. 'bulk': how many values and letters a reading holds, each counted each time it is reached (what is shared counts as often as it is met; a slice's spare places count too). A statement '..UptoSaid' is the law's where the arguments, and the package variables that the reading takes, are together of bulk at most 1048576: NARROWER than '..Said'. Prove '..Said' where nothing that the law and all that it calls make is longer than what came in: it says more and counts as full. Else prove '..UptoSaid'. A law counts once. -/
mutual
def uptoBulk {H : Type} : DataW H → Nat
  | .lit (.string bytes) => bytes.length + 1
  | .lit _ => 1
  | .nil => 1
  | .ptr d => uptoBulk d + 1
  | .slice elems spare => uptoBulkAll elems + uptoBulkAll spare + 1
  | .agg parts => uptoBulkAll parts + 1
  | .iface _ d => uptoBulk d + 1
  | .map entries => uptoBulkEntries entries + 1
  | .held _ => 1
def uptoBulkAll {H : Type} : List (DataW H) → Nat
  | [] => 0
  | d :: r => uptoBulk d + uptoBulkAll r
def uptoBulkEntries {H : Type} : List (Lit × DataW H) → Nat
  | [] => 0
  | x :: r => uptoBulkEntry x + uptoBulkEntries r
def uptoBulkEntry {H : Type} : Lit × DataW H → Nat
  | (.string bytes, d) => bytes.length + uptoBulk d + 1
  | (_, d) => uptoBulk d + 1
 end
def uptoSmall : (H : Type) → List (DataW H) → Bool := fun _ ds => decide (uptoBulkAll ds ≤ 1048576)
def OpenSpec.upto (s : _root_.Go.ChangeSpec) : _root_.Go.OpenSpec := { _root_.Go.OpenSpec.ofChange s with cond := some uptoSmall }

/-- 'docstorelaw10.GeoPoints', WHERE WHAT IT READS IS OF BULK AT MOST 1048576: true; the input reads as it did. -/
def geoPointsUptoRow : OpenClaim := { program := "ytefolbfopjfbcaa", sum := "4f799a747d325bd206dd035a9a37a1c130de8501d7679c780e71e122efff3698", func := "docstore/docstorelaw10.GeoPoints", spec := "geoPoints", unfollowed := true, recurses := true, loops := true, apart := false, narrowed := true }
def GeoPointsUptoSaid : Prop := geoPointsUptoRow.holds Try.pinned (OpenSpec.upto geoPointsSpec)

/-- 'docstorelaw10.GeoInsides', WHERE WHAT IT READS IS OF BULK AT MOST 1048576: true; the input reads as it did. -/
def geoInsidesUptoRow : OpenClaim := { program := "ytefolbfopjfbcaa", sum := "4f799a747d325bd206dd035a9a37a1c130de8501d7679c780e71e122efff3698", func := "docstore/docstorelaw10.GeoInsides", spec := "geoInsides", unfollowed := true, recurses := true, apart := false, narrowed := true }
def GeoInsidesUptoSaid : Prop := geoInsidesUptoRow.holds Try.pinned (OpenSpec.upto geoInsidesSpec)

/-- 'docstorelaw10.GeoTurns', WHERE WHAT IT READS IS OF BULK AT MOST 1048576: true; the input reads as it did. -/
def geoTurnsUptoRow : OpenClaim := { program := "ytefolbfopjfbcaa", sum := "4f799a747d325bd206dd035a9a37a1c130de8501d7679c780e71e122efff3698", func := "docstore/docstorelaw10.GeoTurns", spec := "geoTurns", unfollowed := true, recurses := true, apart := false, narrowed := true }
def GeoTurnsUptoSaid : Prop := geoTurnsUptoRow.holds Try.pinned (OpenSpec.upto geoTurnsSpec)

/-- 'docstorelaw10.GeoCells', WHERE WHAT IT READS IS OF BULK AT MOST 1048576: true; the input reads as it did. -/
def geoCellsUptoRow : OpenClaim := { program := "ytefolbfopjfbcaa", sum := "4f799a747d325bd206dd035a9a37a1c130de8501d7679c780e71e122efff3698", func := "docstore/docstorelaw10.GeoCells", spec := "geoCells", unfollowed := true, recurses := true, apart := false, narrowed := true }
def GeoCellsUptoSaid : Prop := geoCellsUptoRow.holds Try.pinned (OpenSpec.upto geoCellsSpec)

/-- 'docstorelaw10.GeoCovers', WHERE WHAT IT READS IS OF BULK AT MOST 1048576: true; the input reads as it did. -/
def geoCoversUptoRow : OpenClaim := { program := "ytefolbfopjfbcaa", sum := "4f799a747d325bd206dd035a9a37a1c130de8501d7679c780e71e122efff3698", func := "docstore/docstorelaw10.GeoCovers", spec := "geoCovers", unfollowed := true, recurses := true, apart := false, narrowed := true }
def GeoCoversUptoSaid : Prop := geoCoversUptoRow.holds Try.pinned (OpenSpec.upto geoCoversSpec)

/-- 'docstorelaw10.GeoCircles', WHERE WHAT IT READS IS OF BULK AT MOST 1048576: true; the input reads as it did. -/
def geoCirclesUptoRow : OpenClaim := { program := "ytefolbfopjfbcaa", sum := "4f799a747d325bd206dd035a9a37a1c130de8501d7679c780e71e122efff3698", func := "docstore/docstorelaw10.GeoCircles", spec := "geoCircles", unfollowed := true, recurses := true, apart := false, narrowed := true }
def GeoCirclesUptoSaid : Prop := geoCirclesUptoRow.holds Try.pinned (OpenSpec.upto geoCirclesSpec)

/-- 'docstorelaw10.GeoShapes', WHERE WHAT IT READS IS OF BULK AT MOST 1048576: true; the input reads as it did. -/
def geoShapesUptoRow : OpenClaim := { program := "ytefolbfopjfbcaa", sum := "4f799a747d325bd206dd035a9a37a1c130de8501d7679c780e71e122efff3698", func := "docstore/docstorelaw10.GeoShapes", spec := "geoShapes", unfollowed := true, recurses := true, loops := true, apart := false, narrowed := true }
def GeoShapesUptoSaid : Prop := geoShapesUptoRow.holds Try.pinned (OpenSpec.upto geoShapesSpec)

end Rows
end Go.Proofs.Ytefolbfopjfbcaa
