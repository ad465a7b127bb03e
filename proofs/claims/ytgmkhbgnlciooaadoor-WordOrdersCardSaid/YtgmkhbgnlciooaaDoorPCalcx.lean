-- written by the kit's print, run for single functions of seat YtgmkhbgnlciooaaDoor
import Derived.Test.YtgmkhbgnlciooaaDoorPCalcx0
import Derived.Test.YtgmkhbgnlciooaaDoorPCalcx1
namespace Go.Proofs.YtgmkhbgnlciooaaDoor.PCalc
open Go.RowKit Go.Proofs.YtgmkhbgnlciooaaDoorW.PrintWords Go.Proofs.YtgmkhbgnlciooaaDoorW.PrintLast Go.Proofs.YtgmkhbgnlciooaaDoorW.PrintMore
attribute [local go_sem] max2_int min2_int max_two min_two max_three min_three max_four min_four   -- for this text's walks alone
set_option linter.unusedVariables false
set_option linter.unusedSimpArgs false

end Go.Proofs.YtgmkhbgnlciooaaDoor.PCalc
