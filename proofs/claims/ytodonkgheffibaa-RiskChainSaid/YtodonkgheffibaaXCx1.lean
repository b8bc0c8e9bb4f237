-- Written by a program of this session (wip/tools/xprint.py) over the kit's printer; some functions are given by hand. Not trusted: Lean checks it.
import Derived.Test.YtodonkgheffibaaXCx0
namespace Go.Proofs.Ytodonkgheffibaa.XC
open Go.RowKit Go.Proofs.YtodonkgheffibaaW.PrintWords Go.Proofs.YtodonkgheffibaaW.PrintLast Go.Proofs.YtodonkgheffibaaW.PrintMore
attribute [local go_sem] max2_int min2_int max_two min_two max_three min_three max_four min_four   -- for this text's walks alone
set_option linter.unusedVariables false
set_option linter.unusedSimpArgs false

/-! ### fareboxlaw13_awake: by hand -/
def fareboxlaw13_awake.f : Option (Bool) := some true
theorem fareboxlaw13_awake.calls (r : Bool) (w : World) (h : fareboxlaw13_awake.f = some r) : Calls Try.prog 8 #[] w fun e w' => e = .returned (.bool r) ∧ Below w.heap.size w w' := by
  obtain rfl := Option.some.inj h
  exact Hand.awake_any w

/-! ### risk_Right: told anew by its plain meaning -/
def risk_Right.f (a0_0 : Int) (l0_1 : List ByteArray) : Option (Int) := some (Go.Proofs.Ytodonkgheffibaa.PC.rightS a0_0 l0_1)
theorem risk_Right.calls (a0_0 : Int) (A0_1 : Option Addr) (c0_1 : Nat) (l0_1 : List ByteArray) (r : Int) (w : World) (hr0_1 : Kd.C Kd.string w A0_1 l0_1.length l0_1) (hc0_1 : l0_1.length ≤ c0_1) (h : risk_Right.f a0_0 l0_1 = some r) :
    Calls Try.prog 10 #[.agg #[.int .i64 a0_0, .slice A0_1 l0_1.length c0_1]] w fun e w' => e = .returned (.int .i64 r) ∧ Below w.heap.size w w' := by
  exact Go.Proofs.Ytodonkgheffibaa.XB.risk_Right.calls (0 + 1) a0_0 A0_1 c0_1 l0_1 r w hr0_1 hc0_1 ((show Go.Proofs.Ytodonkgheffibaa.XB.risk_Right.f (0 + 1) a0_0 l0_1 = some (Go.Proofs.Ytodonkgheffibaa.PC.rightS a0_0 l0_1) from Go.Proofs.Ytodonkgheffibaa.PC.right_total a0_0 l0_1 0).trans h)

/-! ### risk_Has: told anew by its plain meaning -/
def risk_Has.f (a0_0 : Int) (l0_1 : List ByteArray) (a1 : ByteArray) : Option (Bool) := some (Go.Proofs.Ytodonkgheffibaa.PA.inS l0_1 a1)
theorem risk_Has.calls (a0_0 : Int) (A0_1 : Option Addr) (c0_1 : Nat) (l0_1 : List ByteArray) (a1 : ByteArray) (r : Bool) (w : World) (hr0_1 : Kd.C Kd.string w A0_1 l0_1.length l0_1) (hc0_1 : l0_1.length ≤ c0_1) (h : risk_Has.f a0_0 l0_1 a1 = some r) :
    Calls Try.prog 12 #[.agg #[.int .i64 a0_0, .slice A0_1 l0_1.length c0_1], .string a1] w fun e w' => e = .returned (.bool r) ∧ Below w.heap.size w w' := by
  exact Go.Proofs.Ytodonkgheffibaa.XB.risk_Has.calls a0_0 A0_1 c0_1 l0_1 a1 r w hr0_1 hc0_1 ((show Go.Proofs.Ytodonkgheffibaa.XB.risk_Has.f a0_0 l0_1 a1 = some (Go.Proofs.Ytodonkgheffibaa.PA.inS l0_1 a1) from rfl).trans h)

/-! ### risk_Apply: told anew by its plain meaning -/
def risk_Apply.f (a0_0 : Int) (l0_1 : List ByteArray) (a1_0 : Int) (l1_1 : List ByteArray) (l1_2 : List ByteArray) : Option (Int × List ByteArray × Int) := if a1_0 ≤ 9223372036854775807 ∧ l1_1.length ≤ 8796093022208 then some (Go.Proofs.Ytodonkgheffibaa.PC.applyS a0_0 l0_1 a1_0 l1_1 l1_2) else none
theorem risk_Apply.calls (a0_0 : Int) (A0_1 : Option Addr) (c0_1 : Nat) (l0_1 : List ByteArray) (a1_0 : Int) (A1_1 : Option Addr) (c1_1 : Nat) (l1_1 : List ByteArray) (A1_2 : Option Addr) (c1_2 : Nat) (l1_2 : List ByteArray) (r1 : Int) (r2 : List ByteArray) (r3 : Int) (w : World) (hr0_1 : Kd.C Kd.string w A0_1 l0_1.length l0_1) (hc0_1 : l0_1.length ≤ c0_1) (hr1_1 : Kd.C Kd.string w A1_1 l1_1.length l1_1) (hc1_1 : l1_1.length ≤ c1_1) (hr1_2 : Kd.C Kd.string w A1_2 l1_2.length l1_2) (hc1_2 : l1_2.length ≤ c1_2) (h : risk_Apply.f a0_0 l0_1 a1_0 l1_1 l1_2 = some (r1, r2, r3)) :
    Calls Try.prog 13 #[.agg #[.int .i64 a0_0, .slice A0_1 l0_1.length c0_1], .agg #[.int .i64 a1_0, .slice A1_1 l1_1.length c1_1, .slice A1_2 l1_2.length c1_2]] w fun e w' => ∃ v1_ : Value, e = .returned (.tuple #[.agg #[.int .i64 r1, v1_], .int .i64 r3]) ∧ Kd.V Kd.string 9 w' w.heap.size (fun k_ => (w.heap.size ≤ k_)) v1_ r2 ∧ Below w.heap.size w w' := by
  by_cases hc_ : a1_0 ≤ 9223372036854775807 ∧ l1_1.length ≤ 8796093022208
  · have e_ : risk_Apply.f a0_0 l0_1 a1_0 l1_1 l1_2 = some (Go.Proofs.Ytodonkgheffibaa.PC.applyS a0_0 l0_1 a1_0 l1_1 l1_2) := if_pos hc_
    exact Go.Proofs.Ytodonkgheffibaa.XB.risk_Apply.calls (0 + 1) a0_0 A0_1 c0_1 l0_1 a1_0 A1_1 c1_1 l1_1 A1_2 c1_2 l1_2 r1 r2 r3 w hr0_1 hc0_1 hr1_1 hc1_1 hr1_2 hc1_2 ((show Go.Proofs.Ytodonkgheffibaa.XB.risk_Apply.f (0 + 1) a0_0 l0_1 a1_0 l1_1 l1_2 = some (Go.Proofs.Ytodonkgheffibaa.PC.applyS a0_0 l0_1 a1_0 l1_1 l1_2) from Go.Proofs.Ytodonkgheffibaa.PC.apply_total a0_0 l0_1 a1_0 l1_1 l1_2 hc_.1 hc_.2 0).trans (e_.symm.trans h))
  · rw [show risk_Apply.f a0_0 l0_1 a1_0 l1_1 l1_2 = none from if_neg hc_] at h
    cases h

/-! ### risk_Diff: told anew by its plain meaning -/
def risk_Diff.f (a0_0 : Int) (l0_1 : List ByteArray) (l1 : List ByteArray) : Option (Int × List ByteArray × List ByteArray × Int) := if a0_0 ≤ 9223372036854775807 ∧ l1.length * 16 ≤ 281474976710656 then some (Go.Proofs.Ytodonkgheffibaa.PC.diffS a0_0 l0_1 l1) else none
theorem risk_Diff.calls (a0_0 : Int) (A0_1 : Option Addr) (c0_1 : Nat) (l0_1 : List ByteArray) (A1 : Option Addr) (c1 : Nat) (l1 : List ByteArray) (r1 : Int) (r2 : List ByteArray) (r3 : List ByteArray) (r4 : Int) (w : World) (hr0_1 : Kd.C Kd.string w A0_1 l0_1.length l0_1) (hc0_1 : l0_1.length ≤ c0_1) (hr1 : Kd.C Kd.string w A1 l1.length l1) (hc1 : l1.length ≤ c1) (h : risk_Diff.f a0_0 l0_1 l1 = some (r1, r2, r3, r4)) :
    Calls Try.prog 21 #[.agg #[.int .i64 a0_0, .slice A0_1 l0_1.length c0_1], .slice A1 l1.length c1] w fun e w' => ∃ v1_ v2_ : Value, e = .returned (.tuple #[.agg #[.int .i64 r1, v1_, v2_], .int .i64 r4]) ∧ Kd.R Kd.string 9 w' w.heap.size (fun k_ => some k_ ≠ (v2_ : Value).ownBlock) v1_ r2 ∧ Kd.R Kd.string 9 w' w.heap.size (fun k_ => some k_ ≠ (v1_ : Value).ownBlock) v2_ r3 ∧ Below w.heap.size w w' := by
  by_cases hc_ : a0_0 ≤ 9223372036854775807 ∧ l1.length * 16 ≤ 281474976710656
  · have e_ : risk_Diff.f a0_0 l0_1 l1 = some (Go.Proofs.Ytodonkgheffibaa.PC.diffS a0_0 l0_1 l1) := if_pos hc_
    exact Go.Proofs.Ytodonkgheffibaa.XB.risk_Diff.calls (0 + 1) a0_0 A0_1 c0_1 l0_1 A1 c1 l1 r1 r2 r3 r4 w hr0_1 hc0_1 hr1 hc1 ((show Go.Proofs.Ytodonkgheffibaa.XB.risk_Diff.f (0 + 1) a0_0 l0_1 l1 = some (Go.Proofs.Ytodonkgheffibaa.PC.diffS a0_0 l0_1 l1) from Go.Proofs.Ytodonkgheffibaa.PC.diff_total a0_0 l0_1 l1 hc_.1 hc_.2 0).trans (e_.symm.trans h))
  · rw [show risk_Diff.f a0_0 l0_1 l1 = none from if_neg hc_] at h
    cases h

/-! ### fareboxref13_SameTokens: told anew by its plain meaning -/
def fareboxref13_SameTokens.f (l0 : List ByteArray) (l1 : List ByteArray) : Option (Bool) := some (Go.Proofs.Ytodonkgheffibaa.PA.sameS l0 l1)
theorem fareboxref13_SameTokens.calls (A0 : Option Addr) (c0 : Nat) (l0 : List ByteArray) (A1 : Option Addr) (c1 : Nat) (l1 : List ByteArray) (r : Bool) (w : World) (hr0 : Kd.C Kd.string w A0 l0.length l0) (hc0 : l0.length ≤ c0) (hr1 : Kd.C Kd.string w A1 l1.length l1) (hc1 : l1.length ≤ c1) (h : fareboxref13_SameTokens.f l0 l1 = some r) :
    Calls Try.prog 22 #[.slice A0 l0.length c0, .slice A1 l1.length c1] w fun e w' => e = .returned (.bool r) ∧ Drawn0 w w' := by
  exact Go.Proofs.Ytodonkgheffibaa.XB.fareboxref13_SameTokens.calls A0 c0 l0 A1 c1 l1 r w hr0 hc0 hr1 hc1 ((show Go.Proofs.Ytodonkgheffibaa.XB.fareboxref13_SameTokens.f l0 l1 = some (Go.Proofs.Ytodonkgheffibaa.PA.sameS l0 l1) from rfl).trans h)

end Go.Proofs.Ytodonkgheffibaa.XC
