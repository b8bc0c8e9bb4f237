-- Written by a program of this session (wip/tools/xprint.py) over the kit's printer; some functions are given by hand. Not trusted: Lean checks it.
import Derived.Test.YtbfpggghcdfghaaXAx0
import Derived.Test.YtbfpggghcdfghaaXAx1
import Derived.Test.YtbfpggghcdfghaaXAx2
namespace Go.Proofs.Ytbfpggghcdfghaa.XA
open Go.RowKit Go.Proofs.YtbfpggghcdfghaaW.PrintWords Go.Proofs.YtbfpggghcdfghaaW.PrintLast Go.Proofs.YtbfpggghcdfghaaW.PrintMore
attribute [local go_sem] max2_int min2_int max_two min_two max_three min_three max_four min_four   -- for this text's walks alone
set_option linter.unusedVariables false
set_option linter.unusedSimpArgs false

end Go.Proofs.Ytbfpggghcdfghaa.XA
