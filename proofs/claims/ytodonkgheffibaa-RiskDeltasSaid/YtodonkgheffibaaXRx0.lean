-- Written by a program of this session (wip/tools/xprint.py) over the kit's printer; some functions are given by hand. Not trusted: Lean checks it.
import Derived.Test.YtodonkgheffibaaProg
import Derived.Below
import Derived.Deep.Draws
import Derived.Deep.AppendLies
import Derived.Maps.AppendAt
import Derived.OwnWalk
import Derived.Laws.BytesArg
import Derived.Laws.MakeOwn
import Derived.Laws.OwnMore
import Derived.Deep.OwnRows
import Derived.Tactics
import Derived.Lib.ConvBytes
import Derived.Laws.Slices
import Derived.WalkKit
import Derived.KernelRfl
import Derived.RowKit3
import Derived.Deep.LoopGhost
import Derived.Deep.QuietTactic
import Derived.BigQuiet
import Derived.WideLaws
import Derived.Deep.DeepCutAuto
import Derived.Deep.CutBlock
import Derived.Deep.RegionHeld3
import Derived.Laws.Rows
import Derived.Lib.AppendStr
import Derived.ArgAppend
import Derived.Laws.IdiomCopy
import Derived.OrdersHeld
import Derived.Laws.BitsLemmas
import Derived.RowKit
import Derived.WalkLawsBesides
import Derived.Test.YtodonkgheffibaaLe
import Derived.Test.YtodonkgheffibaaWWords
import Derived.Test.YtodonkgheffibaaWLast
import Derived.Test.YtodonkgheffibaaWTab
import Derived.Test.YtodonkgheffibaaWQPut
import Derived.Test.YtodonkgheffibaaWApart
import Derived.Test.YtodonkgheffibaaWArr
import Derived.Test.YtodonkgheffibaaWZeros
import Derived.Test.YtodonkgheffibaaWFoot
import Derived.Test.YtodonkgheffibaaWKept
import Derived.Test.YtodonkgheffibaaWShare
import Derived.Test.YtodonkgheffibaaWN
import Derived.Test.YtodonkgheffibaaWNEv
import Derived.Test.YtodonkgheffibaaWMore
namespace Go.Proofs.Ytodonkgheffibaa.XR
open Go.RowKit Go.Proofs.YtodonkgheffibaaW.PrintWords Go.Proofs.YtodonkgheffibaaW.PrintLast Go.Proofs.YtodonkgheffibaaW.PrintMore
attribute [local go_sem] Go.Proofs.Ytodonkgheffibaa.Hand.le_str max2_int min2_int max_two min_two max_three min_three max_four min_four   -- for this text's walks alone
set_option linter.unusedVariables false
set_option linter.unusedSimpArgs false



def errW : Option Int → Value
  | none => .nilIface
  | some c => .iface 0 (.int .i64 c)
theorem errW_none : errW none = .nilIface := rfl
theorem errW_some (c : Int) : errW (some c) = .iface 0 (.int .i64 c) := rfl

-- the values' own types

end Go.Proofs.Ytodonkgheffibaa.XR
