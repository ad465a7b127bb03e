-- written by the kit's print, run for single functions of seat YtgmkhbgnlciooaaDoor
import Derived.Test.YtgmkhbgnlciooaaDoorProg
import Derived.Below
import Derived.Deep.Draws
import Derived.Deep.AppendLies
import Derived.Maps.AppendAt
import Derived.OwnWalk
import Derived.Laws.BytesArg
import Derived.Laws.MakeOwn
import Derived.Laws.OwnMore
import Derived.Deep.OwnRows
import Derived.Tactics
import Derived.Lib.ConvBytes
import Derived.Laws.Slices
import Derived.WalkKit
import Derived.KernelRfl
import Derived.RowKit3
import Derived.Deep.LoopGhost
import Derived.Deep.QuietTactic
import Derived.BigQuiet
import Derived.WideLaws
import Derived.Deep.DeepCutAuto
import Derived.Deep.CutBlock
import Derived.Deep.RegionHeld3
import Derived.Laws.Rows
import Derived.Lib.AppendStr
import Derived.ArgAppend
import Derived.Laws.IdiomCopy
import Derived.OrdersHeld
import Derived.Laws.BitsLemmas
import Derived.RowKit
import Derived.Test.YtgmkhbgnlciooaaDoorWWords
import Derived.Test.YtgmkhbgnlciooaaDoorWLast
import Derived.Test.YtgmkhbgnlciooaaDoorWTab
import Derived.Test.YtgmkhbgnlciooaaDoorWFour
import Derived.Test.YtgmkhbgnlciooaaDoorWQPut
import Derived.Test.YtgmkhbgnlciooaaDoorWApart
import Derived.Test.YtgmkhbgnlciooaaDoorWArr
import Derived.Test.YtgmkhbgnlciooaaDoorWZeros
import Derived.Test.YtgmkhbgnlciooaaDoorWFoot
import Derived.Test.YtgmkhbgnlciooaaDoorWKept
import Derived.Test.YtgmkhbgnlciooaaDoorWShare
import Derived.Test.YtgmkhbgnlciooaaDoorWN
import Derived.Test.YtgmkhbgnlciooaaDoorWFootNe
import Derived.Test.YtgmkhbgnlciooaaDoorWAt
import Derived.Test.YtgmkhbgnlciooaaDoorWEqStruct
import Derived.Test.YtgmkhbgnlciooaaDoorWRepsOne
import Derived.Test.YtgmkhbgnlciooaaDoorWInv
import Derived.Test.YtgmkhbgnlciooaaDoorWInvWords
import Derived.Test.YtgmkhbgnlciooaaDoorWGuard
import Derived.Test.YtgmkhbgnlciooaaDoorWNEv
import Derived.Test.YtgmkhbgnlciooaaDoorWMore
namespace Go.Proofs.YtgmkhbgnlciooaaDoor.PCalc
open Go.RowKit Go.Proofs.YtgmkhbgnlciooaaDoorW.PrintWords Go.Proofs.YtgmkhbgnlciooaaDoorW.PrintLast Go.Proofs.YtgmkhbgnlciooaaDoorW.PrintMore
attribute [local go_sem] max2_int min2_int max_two min_two max_three min_three max_four min_four   -- for this text's walks alone
set_option linter.unusedVariables false
set_option linter.unusedSimpArgs false



def errW : Option Int → Value
  | none => .nilIface
  | some c => .iface 0 (.int .i64 c)
theorem errW_none : errW none = .nilIface := rfl
theorem errW_some (c : Int) : errW (some c) = .iface 0 (.int .i64 c) := rfl

-- the values' own types

end Go.Proofs.YtgmkhbgnlciooaaDoor.PCalc
