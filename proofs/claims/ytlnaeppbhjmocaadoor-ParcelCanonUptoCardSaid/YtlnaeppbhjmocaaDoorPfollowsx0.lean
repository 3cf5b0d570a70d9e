-- PRINTED BY print.sh 35421559b90ae4d0a3588c463048766b98c2df88dd9212a6774a882060cdf62d: not written by this session
import Derived.Test.YtlnaeppbhjmocaaDoorProg
import Derived.Below
import Derived.Deep.Draws
import Derived.Deep.AppendLies
import Derived.Maps.AppendAt
import Derived.OwnWalk
import Derived.Laws.BytesArg
import Derived.Laws.MakeOwn
import Derived.Laws.OwnMore
import Derived.Deep.OwnRows
import Derived.Tactics
import Derived.Lib.ConvBytes
import Derived.Laws.Slices
import Derived.WalkKit
import Derived.KernelRfl
import Derived.RowKit3
import Derived.Deep.LoopGhost
import Derived.Deep.QuietTactic
import Derived.BigQuiet
import Derived.WideLaws
import Derived.Deep.DeepCutAuto
import Derived.Deep.CutBlock
import Derived.Deep.RegionHeld3
import Derived.Laws.Rows
import Derived.Lib.AppendStr
import Derived.ArgAppend
import Derived.Laws.IdiomCopy
import Derived.OrdersHeld
import Derived.Laws.BitsLemmas
import Derived.RowKit
import Derived.Test.YtlnaeppbhjmocaaDoorWWords
import Derived.Test.YtlnaeppbhjmocaaDoorWLast
import Derived.Test.YtlnaeppbhjmocaaDoorWTab
import Derived.Test.YtlnaeppbhjmocaaDoorWFour
import Derived.Test.YtlnaeppbhjmocaaDoorWQPut
import Derived.Test.YtlnaeppbhjmocaaDoorWApart
import Derived.Test.YtlnaeppbhjmocaaDoorWArr
import Derived.Test.YtlnaeppbhjmocaaDoorWZeros
import Derived.Test.YtlnaeppbhjmocaaDoorWFoot
import Derived.Test.YtlnaeppbhjmocaaDoorWKept
import Derived.Test.YtlnaeppbhjmocaaDoorWShare
import Derived.Test.YtlnaeppbhjmocaaDoorWN
import Derived.Test.YtlnaeppbhjmocaaDoorWFootNe
import Derived.Test.YtlnaeppbhjmocaaDoorWAt
import Derived.Test.YtlnaeppbhjmocaaDoorWEqStruct
import Derived.Test.YtlnaeppbhjmocaaDoorWRepsOne
import Derived.Test.YtlnaeppbhjmocaaDoorWInv
import Derived.Test.YtlnaeppbhjmocaaDoorWInvWords
import Derived.Test.YtlnaeppbhjmocaaDoorWGuard
import Derived.Test.YtlnaeppbhjmocaaDoorWNEv
import Derived.Test.YtlnaeppbhjmocaaDoorWMore
namespace Go.Proofs.YtlnaeppbhjmocaaDoor.Pfollows
open Go.RowKit Go.Proofs.YtlnaeppbhjmocaaDoorW.PrintWords Go.Proofs.YtlnaeppbhjmocaaDoorW.PrintLast Go.Proofs.YtlnaeppbhjmocaaDoorW.PrintMore
attribute [local go_sem] max2_int min2_int max_two min_two max_three min_three max_four min_four   -- for this text's walks alone
set_option linter.unusedVariables false
set_option linter.unusedSimpArgs false



def errW : Option Int → Value
  | none => .nilIface
  | some c => .iface 0 (.int .i64 c)
theorem errW_none : errW none = .nilIface := rfl
theorem errW_some (c : Int) : errW (some c) = .iface 0 (.int .i64 c) := rfl

-- the values' own types

end Go.Proofs.YtlnaeppbhjmocaaDoor.Pfollows
