/-
  NARROWER THAN 'FOR EVERY INPUT', by the rows' own cells (each row's printed sentence says how): PointPacks: laid · PointReads: laid.
  DERIVED. THE GIVEN ROWS OF THIS SEAT. 2 by the template 'for every input the law returns true; each argument reads behind the call as it read before'; 0 by the template 'total and deterministic' (their statements: YtefkklgelmbaiaaDoorTotals.lean).
  GIVEN WITH THE SEED: the statements are not yours to turn. If you find one false, say at which input.
  Laid BY PROGRAM, IN A SANDBOX (cutbox-rows.mjs): the forced cells as the released guide's own fill.sh prints them over the translation f0ebb2faae083ef4… (all of the seat's roots in one cut). By AI agents, Wed Nov 11 2026. No macro, syntax, notation, axiom, sorry.
-/
import Derived.Test.YtefkklgelmbaiaaDoorChecked
import GoSem.Claim
import GoSem.ClaimJoined
import GoSem.ClaimMapViews
import Derived.JoinedTies
import Derived.KernelRfl
namespace Go.Proofs.YtefkklgelmbaiaaDoor
/- THE CELL 'sum', in the pinned program and in every row, IS THE sha256 OF THE DUMP (.gsa) THAT YtefkklgelmbaiaaDoorProg.lean LOADS. Nothing in Lean hashes anything: it is a label: what it is worth is what the hold of that sum in a sandbox is worth. -/
noncomputable def Tryd.pinned : Pinned := { name := "ytefkklgelmbaiaadoor", sum := "f0ebb2faae083ef49ff73e49033b28de006760b5b468810aaca2ed3526d5db80", checked := Tryd.checked }
namespace Rows
def none {H : Type} : Left H := { results := [], args := [] }

/- WHAT THE LISTED PACKAGE-LEVEL VARIABLES READ AS WHEN THE CALL BEGINS. Each datum BY PROGRAM (the guide's laid-datum.mjs) off the statement by which the dump's own 'gosem.cut.vars' lays the variable. In a bare row this is a premise. The card (YtefkklgelmbaiaaDoorCards.lean) ties it to the program's text. -/
def laid_shale_node_fieldType {H : Type} : DataW H := .agg [.lit (.int .i64 0), .lit (.int .i64 1)]
def laid_shale_node_fieldParent {H : Type} : DataW H := .agg [.lit (.int .i64 1), .lit (.int .i64 4)]
def laid_shale_node_fieldSize {H : Type} : DataW H := .agg [.lit (.int .i64 5), .lit (.int .i64 4)]
def laid_shale_node_fieldMode {H : Type} : DataW H := .agg [.lit (.int .i64 9), .lit (.int .i64 2)]
def laid_shale_node_fieldStamp {H : Type} : DataW H := .agg [.lit (.int .i64 11), .lit (.int .i64 8)]
def laid_shale_node_fieldShadow {H : Type} : DataW H := .agg [.lit (.int .i64 19), .lit (.int .i64 4)]

/-- 'shalelaw14.PointPacks': WHATEVER THE INPUT: true; the input reads as it did. -/
def pointPacksSpec : ChangeSpec := { name := "pointPacks", fn := fun _ => fun
  | [d] => { results := [.lit (.bool true)], args := [d] }
  | _ => none }
def pointPacksRow : OpenClaim := { program := "ytefkklgelmbaiaadoor", sum := "f0ebb2faae083ef49ff73e49033b28de006760b5b468810aaca2ed3526d5db80", func := "shale/shalelaw14.PointPacks", spec := "pointPacks", inPlace := ["internal/bytealg.IndexByteString", "internal/bytealg.IndexString"], unfollowed := true, recurses := true, named := ["internal/bytealg.MaxLen", "shale/node.fieldType", "shale/node.fieldParent", "shale/node.fieldSize", "shale/node.fieldMode", "shale/node.fieldStamp", "shale/node.fieldShadow"], apart := false, laid := [("shale/node.fieldType", laid_shale_node_fieldType), ("shale/node.fieldParent", laid_shale_node_fieldParent), ("shale/node.fieldSize", laid_shale_node_fieldSize), ("shale/node.fieldMode", laid_shale_node_fieldMode), ("shale/node.fieldStamp", laid_shale_node_fieldStamp), ("shale/node.fieldShadow", laid_shale_node_fieldShadow)] }
def PointPacksSaid : Prop := pointPacksRow.holds Tryd.pinned (OpenSpec.ofChange pointPacksSpec)

/-- ITS FALSE NEIGHBOUR: 'it returns false'. Refute it at one input. -/
def pointPacksWrong : ChangeSpec := { name := "pointPacks", fn := fun _ => fun
  | [d] => { results := [.lit (.bool false)], args := [d] }
  | _ => none }
def PointPacksWrongFalsely : Prop := pointPacksRow.holds Tryd.pinned (OpenSpec.ofChange pointPacksWrong)

/-- 'shalelaw14.PointReads': WHATEVER THE INPUT: true; the input reads as it did. -/
def pointReadsSpec : ChangeSpec := { name := "pointReads", fn := fun _ => fun
  | [d] => { results := [.lit (.bool true)], args := [d] }
  | _ => none }
def pointReadsRow : OpenClaim := { program := "ytefkklgelmbaiaadoor", sum := "f0ebb2faae083ef49ff73e49033b28de006760b5b468810aaca2ed3526d5db80", func := "shale/shalelaw14.PointReads", spec := "pointReads", inPlace := ["internal/bytealg.IndexByteString", "internal/bytealg.IndexString"], unfollowed := true, recurses := true, named := ["shale/node.fieldType", "shale/node.fieldParent", "shale/node.fieldSize", "shale/node.fieldMode", "shale/node.fieldStamp", "shale/node.fieldShadow", "internal/bytealg.MaxLen"], apart := false, laid := [("shale/node.fieldType", laid_shale_node_fieldType), ("shale/node.fieldParent", laid_shale_node_fieldParent), ("shale/node.fieldSize", laid_shale_node_fieldSize), ("shale/node.fieldMode", laid_shale_node_fieldMode), ("shale/node.fieldStamp", laid_shale_node_fieldStamp), ("shale/node.fieldShadow", laid_shale_node_fieldShadow)] }
def PointReadsSaid : Prop := pointReadsRow.holds Tryd.pinned (OpenSpec.ofChange pointReadsSpec)

/-- ITS FALSE NEIGHBOUR: 'it returns false'. Refute it at one input. -/
def pointReadsWrong : ChangeSpec := { name := "pointReads", fn := fun _ => fun
  | [d] => { results := [.lit (.bool false)], args := [d] }
  | _ => none }
def PointReadsWrongFalsely : Prop := pointReadsRow.holds Tryd.pinned (OpenSpec.ofChange pointReadsWrong)

/- THE SECOND FORM. 'bulk': how many values and letters a reading holds, each counted each time it is reached (what is shared counts as often as it is met; a slice's spare places count too). A statement '..UptoSaid' is the law's where the arguments, and the package variables that the reading takes, are together of bulk at most 1048576: NARROWER than '..Said'. Prove '..Said' where nothing that the law and all that it calls make is longer than what came in: it says more and counts as full. Else prove '..UptoSaid'. A law counts once. -/
mutual
def uptoBulk {H : Type} : DataW H → Nat
  | .lit (.string bytes) => bytes.length + 1
  | .lit _ => 1
  | .nil => 1
  | .ptr d => uptoBulk d + 1
  | .slice elems spare => uptoBulkAll elems + uptoBulkAll spare + 1
  | .agg parts => uptoBulkAll parts + 1
  | .iface _ d => uptoBulk d + 1
  | .map entries => uptoBulkEntries entries + 1
  | .held _ => 1
def uptoBulkAll {H : Type} : List (DataW H) → Nat
  | [] => 0
  | d :: r => uptoBulk d + uptoBulkAll r
def uptoBulkEntries {H : Type} : List (Lit × DataW H) → Nat
  | [] => 0
  | x :: r => uptoBulkEntry x + uptoBulkEntries r
def uptoBulkEntry {H : Type} : Lit × DataW H → Nat
  | (.string bytes, d) => bytes.length + uptoBulk d + 1
  | (_, d) => uptoBulk d + 1
 end
def uptoSmall : (H : Type) → List (DataW H) → Bool := fun _ ds => decide (uptoBulkAll ds ≤ 1048576)
def OpenSpec.upto (s : _root_.Go.ChangeSpec) : _root_.Go.OpenSpec := { _root_.Go.OpenSpec.ofChange s with cond := some uptoSmall }

/-- 'shalelaw14.PointPacks', WHERE WHAT IT READS IS OF BULK AT MOST 1048576: true; the input reads as it did. -/
def pointPacksUptoRow : OpenClaim := { program := "ytefkklgelmbaiaadoor", sum := "f0ebb2faae083ef49ff73e49033b28de006760b5b468810aaca2ed3526d5db80", func := "shale/shalelaw14.PointPacks", spec := "pointPacks", inPlace := ["internal/bytealg.IndexByteString", "internal/bytealg.IndexString"], unfollowed := true, recurses := true, named := ["internal/bytealg.MaxLen", "shale/node.fieldType", "shale/node.fieldParent", "shale/node.fieldSize", "shale/node.fieldMode", "shale/node.fieldStamp", "shale/node.fieldShadow"], apart := false, laid := [("shale/node.fieldType", laid_shale_node_fieldType), ("shale/node.fieldParent", laid_shale_node_fieldParent), ("shale/node.fieldSize", laid_shale_node_fieldSize), ("shale/node.fieldMode", laid_shale_node_fieldMode), ("shale/node.fieldStamp", laid_shale_node_fieldStamp), ("shale/node.fieldShadow", laid_shale_node_fieldShadow)], narrowed := true }
def PointPacksUptoSaid : Prop := pointPacksUptoRow.holds Tryd.pinned (OpenSpec.upto pointPacksSpec)

/-- 'shalelaw14.PointReads', WHERE WHAT IT READS IS OF BULK AT MOST 1048576: true; the input reads as it did. -/
def pointReadsUptoRow : OpenClaim := { program := "ytefkklgelmbaiaadoor", sum := "f0ebb2faae083ef49ff73e49033b28de006760b5b468810aaca2ed3526d5db80", func := "shale/shalelaw14.PointReads", spec := "pointReads", inPlace := ["internal/bytealg.IndexByteString", "internal/bytealg.IndexString"], unfollowed := true, recurses := true, named := ["shale/node.fieldType", "shale/node.fieldParent", "shale/node.fieldSize", "shale/node.fieldMode", "shale/node.fieldStamp", "shale/node.fieldShadow", "internal/bytealg.MaxLen"], apart := false, laid := [("shale/node.fieldType", laid_shale_node_fieldType), ("shale/node.fieldParent", laid_shale_node_fieldParent), ("shale/node.fieldSize", laid_shale_node_fieldSize), ("shale/node.fieldMode", laid_shale_node_fieldMode), ("shale/node.fieldStamp", laid_shale_node_fieldStamp), ("shale/node.fieldShadow", laid_shale_node_fieldShadow)], narrowed := true }
def PointReadsUptoSaid : Prop := pointReadsUptoRow.holds Tryd.pinned (OpenSpec.upto pointReadsSpec)

end Rows
end Go.Proofs.YtefkklgelmbaiaaDoor
