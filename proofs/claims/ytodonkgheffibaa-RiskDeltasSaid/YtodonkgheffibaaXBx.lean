-- Written by a program of this session (wip/tools/xprint.py) over the kit's printer; some functions are given by hand. Not trusted: Lean checks it.
import Derived.Test.YtodonkgheffibaaXBx0
import Derived.Test.YtodonkgheffibaaXBx1
import Derived.Test.YtodonkgheffibaaXBx2
import Derived.Test.YtodonkgheffibaaXBx3
namespace Go.Proofs.Ytodonkgheffibaa.XB
open Go.RowKit Go.Proofs.YtodonkgheffibaaW.PrintWords Go.Proofs.YtodonkgheffibaaW.PrintLast Go.Proofs.YtodonkgheffibaaW.PrintMore
attribute [local go_sem] max2_int min2_int max_two min_two max_three min_three max_four min_four   -- for this text's walks alone
set_option linter.unusedVariables false
set_option linter.unusedSimpArgs false

end Go.Proofs.Ytodonkgheffibaa.XB
