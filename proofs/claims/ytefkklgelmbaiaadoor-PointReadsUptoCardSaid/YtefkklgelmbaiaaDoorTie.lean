/-
  DERIVED. GIVEN WITH THE SEED: THE PROGRAM's TIES (one call each: nine closed facts by the kernel) AND EACH ROW's TIE, after the 31st guide's Derived/Test/Toyas{Tie, Card}.lean. No idea stands in it: it is a product of the set-up. Laid BY PROGRAM, IN A SANDBOX (cutbox-door.mjs). By AI agents, Wed Nov 11 2026. No macro, syntax, notation, axiom, sorry.
-/
import Derived.Test.YtefkklgelmbaiaaDoorRows
import Derived.LaidByTextLater
import Derived.SevenTiedAt
import Derived.LaidSub
import Derived.LaidOnce
namespace Go.Proofs.YtefkklgelmbaiaaDoor
open Go
set_option maxRecDepth 100000
theorem seatTie1 : Tryd.prog.laidByTextLater [("shale/node.fieldType", Rows.laid_shale_node_fieldType), ("shale/node.fieldParent", Rows.laid_shale_node_fieldParent), ("shale/node.fieldSize", Rows.laid_shale_node_fieldSize), ("shale/node.fieldMode", Rows.laid_shale_node_fieldMode), ("shale/node.fieldStamp", Rows.laid_shale_node_fieldStamp), ("shale/node.fieldShadow", Rows.laid_shale_node_fieldShadow)] [.data, .data, .data, .data, .data, .data] true :=
  Program.laidByTextLater_by_one 39 8 3 (by kernel_rfl) (by kernel_rfl) (by kernel_rfl) (by kernel_rfl) (by kernel_rfl) (by kernel_rfl) (fun _ _ => by kernel_rfl)
theorem noOwnUnsafe : Tryd.pinned.checked.prog.headLifts.contains "ownunsafe" = false := by kernel_rfl
theorem tie : Tryd.prog.laidByTextLater [("shale/node.fieldType", Rows.laid_shale_node_fieldType), ("shale/node.fieldParent", Rows.laid_shale_node_fieldParent), ("shale/node.fieldSize", Rows.laid_shale_node_fieldSize), ("shale/node.fieldMode", Rows.laid_shale_node_fieldMode), ("shale/node.fieldStamp", Rows.laid_shale_node_fieldStamp), ("shale/node.fieldShadow", Rows.laid_shale_node_fieldShadow)] [.data, .data, .data, .data, .data, .data] true :=
  Program.laidByTextLater.sub seatTie1 ["shale/node.fieldType", "shale/node.fieldParent", "shale/node.fieldSize", "shale/node.fieldMode", "shale/node.fieldStamp", "shale/node.fieldShadow"] (by kernel_rfl) (by kernel_rfl)
theorem pointPacks_row_tie : Rows.pointPacksRow.laidByTextAt .later Tryd.pinned [.data, .data, .data, .data, .data, .data] true :=
  OpenClaim.laidByTextAt_later rfl rfl tie noOwnUnsafe
theorem pointReads_row_tie : Rows.pointReadsRow.laidByTextAt .later Tryd.pinned [.data, .data, .data, .data, .data, .data] true :=
  OpenClaim.laidByTextAt_later rfl rfl tie noOwnUnsafe
theorem pointPacksUpto_row_tie : Rows.pointPacksUptoRow.laidByTextAt .later Tryd.pinned [.data, .data, .data, .data, .data, .data] true :=
  OpenClaim.laidByTextAt_later rfl rfl tie noOwnUnsafe
theorem pointReadsUpto_row_tie : Rows.pointReadsUptoRow.laidByTextAt .later Tryd.pinned [.data, .data, .data, .data, .data, .data] true :=
  OpenClaim.laidByTextAt_later rfl rfl tie noOwnUnsafe
end Go.Proofs.YtefkklgelmbaiaaDoor
