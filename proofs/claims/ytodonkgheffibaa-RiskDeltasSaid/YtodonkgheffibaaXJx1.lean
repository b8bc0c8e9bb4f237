-- Written by a program of this session (wip/tools/xprint.py) over the kit's printer; some functions are given by hand. Not trusted: Lean checks it.
import Derived.Test.YtodonkgheffibaaXJx0
namespace Go.Proofs.Ytodonkgheffibaa.XJ
open Go.RowKit Go.Proofs.YtodonkgheffibaaW.PrintWords Go.Proofs.YtodonkgheffibaaW.PrintLast Go.Proofs.YtodonkgheffibaaW.PrintMore
attribute [local go_sem] max2_int min2_int max_two min_two max_three min_three max_four min_four   -- for this text's walks alone
set_option linter.unusedVariables false
set_option linter.unusedSimpArgs false

/-! ### risk_less_string: told anew by its plain meaning -/
def risk_less_string.f (l0 : List ByteArray) (l1 : List ByteArray) : Option (List ByteArray) := if l0.length ≤ 8796093022208 then some (Go.Proofs.Ytodonkgheffibaa.PA.lessS l0 l1) else none
theorem risk_less_string.calls (A0 : Option Addr) (c0 : Nat) (l0 : List ByteArray) (A1 : Option Addr) (c1 : Nat) (l1 : List ByteArray) (r : List ByteArray) (w : World) (hr0 : Kd.C Kd.string w A0 l0.length l0) (hc0 : l0.length ≤ c0) (hr1 : Kd.C Kd.string w A1 l1.length l1) (hc1 : l1.length ≤ c1) (h : risk_less_string.f l0 l1 = some r) :
  Calls Try.prog 30 #[.slice A0 l0.length c0, .slice A1 l1.length c1] w fun e w' => ∃ v0_ : Value, e = .returned (v0_) ∧ Kd.R Kd.string 9 w' w.heap.size (fun _ => True) v0_ r ∧ Below w.heap.size w w' := by
  by_cases hc_ : l0.length ≤ 8796093022208
  · have e_ : risk_less_string.f l0 l1 = some (Go.Proofs.Ytodonkgheffibaa.PA.lessS l0 l1) := if_pos hc_
    exact Go.Proofs.Ytodonkgheffibaa.XA.risk_less_string.calls (l0.length + l1.length + 1) A0 c0 l0 A1 c1 l1 r w hr0 hc0 hr1 hc1 ((show Go.Proofs.Ytodonkgheffibaa.XA.risk_less_string.f (l0.length + l1.length + 1) l0 l1 = some (Go.Proofs.Ytodonkgheffibaa.PA.lessS l0 l1) from Go.Proofs.Ytodonkgheffibaa.PA.less_total l0 l1 hr1.2.1 hc_ (Nat.lt_succ_self _)).trans (e_.symm.trans h))
  · rw [show risk_less_string.f l0 l1 = none from if_neg hc_] at h
    cases h

/-! ### risk_plus_string: by hand -/
def risk_plus_string.f (l0 : List ByteArray) (l1 : List ByteArray) : Option (List ByteArray) := if (l0.length + l1.length) * 16 ≤ 281474976710656 then some (Hand.plusL l0 l1) else none
theorem risk_plus_string.calls (A0 : Option Addr) (c0 : Nat) (l0 : List ByteArray) (A1 : Option Addr) (c1 : Nat) (l1 : List ByteArray) (r : List ByteArray) (w : World) (hr0 : Kd.C Kd.string w A0 l0.length l0) (hc0 : l0.length ≤ c0) (hr1 : Kd.C Kd.string w A1 l1.length l1) (hc1 : l1.length ≤ c1) (h : risk_plus_string.f l0 l1 = some r) :
    Calls Try.prog 31 #[.slice A0 l0.length c0, .slice A1 l1.length c1] w fun e w' => ∃ v0_ : Value, e = .returned (v0_) ∧ Hand.VW Kd.string 9 w' w.heap.size (fun k_ => (w.heap.size ≤ k_)) v0_ r ∧ Below w.heap.size w w' := by
  by_cases hc_ : (l0.length + l1.length) * 16 ≤ 281474976710656
  · have e_ : risk_plus_string.f l0 l1 = some (Hand.plusL l0 l1) := if_pos hc_
    obtain rfl := Option.some.inj (e_.symm.trans h)
    exact Hand.plus_any A0 A1 c0 c1 l0 l1 w hr0 hr1 hc_
  · rw [show risk_plus_string.f l0 l1 = none from if_neg hc_] at h
    cases h

/-! ### risk_may: by hand -/
def risk_may.f (a0_0 : Int) (l0_1 : List ByteArray) (l0_2 : List ByteArray) : Option (Bool) := some (Hand.mayB a0_0 l0_1 l0_2)
theorem risk_may.calls (a0_0 : Int) (A0_1 : Option Addr) (c0_1 : Nat) (l0_1 : List ByteArray) (A0_2 : Option Addr) (c0_2 : Nat) (l0_2 : List ByteArray) (r : Bool) (w : World) (hr0_1 : Kd.C Kd.string w A0_1 l0_1.length l0_1) (hc0_1 : l0_1.length ≤ c0_1) (hr0_2 : Kd.C Kd.string w A0_2 l0_2.length l0_2) (hc0_2 : l0_2.length ≤ c0_2) (h : risk_may.f a0_0 l0_1 l0_2 = some r) :
    Calls Try.prog 32 #[.agg #[.int .i64 a0_0, .slice A0_1 l0_1.length c0_1, .slice A0_2 l0_2.length c0_2]] w fun e w' => e = .returned (.bool r) ∧ Below w.heap.size w w' := by
  obtain rfl := Option.some.inj h
  exact Hand.may_any a0_0 A0_1 A0_2 c0_1 c0_2 l0_1 l0_2 w hr0_1 hc0_1 hr0_2 hc0_2

end Go.Proofs.Ytodonkgheffibaa.XJ
