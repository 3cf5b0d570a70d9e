/- From a row's premises to the walk's: a slice of leaves as an argument. -/
import Derived.Test.YtlnaeppbhjmocaaDoorU7
set_option linter.unusedSectionVars false
set_option linter.unnecessarySimpa false
set_option linter.unusedSimpArgs false
set_option linter.unusedVariables false
set_option linter.unusedSimpArgs false
set_option linter.unusedVariables false
namespace Go.Proofs.YtlnaeppbhjmocaaDoor
open Go.RowKit Go.Proofs Go.Shelf

end Go.Proofs.YtlnaeppbhjmocaaDoor
set_option linter.unusedSimpArgs false
set_option linter.unusedVariables false
namespace Go.Proofs.YtlnaeppbhjmocaaDoor
open Go.RowKit Go.Proofs

end Go.Proofs.YtlnaeppbhjmocaaDoor
set_option linter.unusedSimpArgs false
set_option linter.unusedVariables false
namespace Go.Proofs.YtlnaeppbhjmocaaDoor
open Go.RowKit Go.Proofs

end Go.Proofs.YtlnaeppbhjmocaaDoor
set_option linter.unusedSimpArgs false
set_option linter.unusedVariables false
namespace Go.Proofs.YtlnaeppbhjmocaaDoor
open Go.RowKit Go.Proofs

end Go.Proofs.YtlnaeppbhjmocaaDoor
set_option linter.unusedSimpArgs false
set_option linter.unusedVariables false
namespace Go.Proofs.YtlnaeppbhjmocaaDoor
open Go.RowKit Go.Proofs Go.Proofs.YtlnaeppbhjmocaaDoorW.PrintWords Go.Proofs.YtlnaeppbhjmocaaDoorW.PrintMore

end Go.Proofs.YtlnaeppbhjmocaaDoor
set_option linter.unusedSimpArgs false
set_option linter.unusedVariables false
namespace Go.Proofs.YtlnaeppbhjmocaaDoor
open Go.RowKit Go.Proofs

end Go.Proofs.YtlnaeppbhjmocaaDoor
set_option linter.unusedSimpArgs false
set_option linter.unusedVariables false
namespace Go.Proofs.YtlnaeppbhjmocaaDoor
open Go.RowKit Go.Proofs

end Go.Proofs.YtlnaeppbhjmocaaDoor
set_option linter.unusedSimpArgs false
set_option linter.unusedVariables false
namespace Go.Proofs.YtlnaeppbhjmocaaDoor
open Go.RowKit Go.Proofs

end Go.Proofs.YtlnaeppbhjmocaaDoor
set_option linter.unusedSimpArgs false
set_option linter.unusedVariables false
namespace Go.Proofs.YtlnaeppbhjmocaaDoor
open Go.ChangeShapes Go.WideShapes Go.ChangeAt Go.RowKit

instance : Inhabited (Lf × Value) := ⟨(default, .bool false)⟩
end Go.Proofs.YtlnaeppbhjmocaaDoor
