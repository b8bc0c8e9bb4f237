-- Written by a program of this session (wip/tools/xprint.py) over the kit's printer; some functions are given by hand. Not trusted: Lean checks it.
import Derived.Test.YtodonkgheffibaaXCx0
namespace Go.Proofs.Ytodonkgheffibaa.XC
open Go.RowKit Go.Proofs.YtodonkgheffibaaW.PrintWords Go.Proofs.YtodonkgheffibaaW.PrintLast Go.Proofs.YtodonkgheffibaaW.PrintMore
attribute [local go_sem] max2_int min2_int max_two min_two max_three min_three max_four min_four   -- for this text's walks alone
set_option linter.unusedVariables false
set_option linter.unusedSimpArgs false

/-! ### fareboxref13_SameList: told anew by its plain meaning -/
def fareboxref13_SameList.f (a0_0 : Int) (l0_1 : List ByteArray) (a1_0 : Int) (l1_1 : List ByteArray) : Option (Bool) := some (Go.Proofs.Ytodonkgheffibaa.PA.sameS l0_1 l1_1 && (a0_0 == a1_0))
theorem fareboxref13_SameList.calls (a0_0 : Int) (A0_1 : Option Addr) (c0_1 : Nat) (l0_1 : List ByteArray) (a1_0 : Int) (A1_1 : Option Addr) (c1_1 : Nat) (l1_1 : List ByteArray) (r : Bool) (w : World) (hr0_1 : Kd.C Kd.string w A0_1 l0_1.length l0_1) (hc0_1 : l0_1.length ≤ c0_1) (hr1_1 : Kd.C Kd.string w A1_1 l1_1.length l1_1) (hc1_1 : l1_1.length ≤ c1_1) (h : fareboxref13_SameList.f a0_0 l0_1 a1_0 l1_1 = some r) :
    Calls Try.prog 16 #[.agg #[.int .i64 a0_0, .slice A0_1 l0_1.length c0_1], .agg #[.int .i64 a1_0, .slice A1_1 l1_1.length c1_1]] w fun e w' => e = .returned (.bool r) ∧ Below w.heap.size w w' := by
  exact Go.Proofs.Ytodonkgheffibaa.XB.fareboxref13_SameList.calls a0_0 A0_1 c0_1 l0_1 a1_0 A1_1 c1_1 l1_1 r w hr0_1 hc0_1 hr1_1 hc1_1 ((show Go.Proofs.Ytodonkgheffibaa.XB.fareboxref13_SameList.f a0_0 l0_1 a1_0 l1_1 = some (Go.Proofs.Ytodonkgheffibaa.PA.sameS l0_1 l1_1 && (a0_0 == a1_0)) from by simp only [XB.fareboxref13_SameList.f, XB.fareboxref13_SameTokens.f, Option.bind_some]; cases Go.Proofs.Ytodonkgheffibaa.PA.sameS l0_1 l1_1 <;> rfl).trans h)

end Go.Proofs.Ytodonkgheffibaa.XC
