/- What a rate is, walked. -/
import Derived.Test.YtdioaclegmalpaaDoorPureF
import Derived.Test.YtdioaclegmalpaaDoorHandC
import Derived.Laws.Externs
namespace Go.Proofs.YtdioaclegmalpaaDoor.Hand
open Go.RowKit Go.Sort Go.Lib Go.Proofs.YtdioaclegmalpaaDoorW.PrintWords Go.Proofs.YtdioaclegmalpaaDoor.XA

theorem fbits (b : Nat) (w : World) : (callFunc 35 #[.float .f64 b]).run Tryd.prog w = .ok (.value (.int .u64 b)) w := by
  rw [run_callFunc_extern (e := Extern.MathFloatBits.float64bits) Tryd.func35 (by kernel_rfl) (by kernel_rfl) (by kernel_rfl) rfl]
  rfl
set_option maxRecDepth 20000 in
theorem signbit_any (b : Nat) (w : World) (hb : b < 18446744073709551616) : Calls Tryd.prog 34 #[.float .f64 b] w fun e w' => e = .returned (.bool (decide (9223372036854775808 ≤ b))) ∧ w' = w := by
  have hf := fun w => fbits b w
  by_cases h : 9223372036854775808 ≤ b
  · have p1 : IntKind.i64.wrap (b : Int) = (b : Int) - 18446744073709551616 := by rw [IntKind.wrap_i64]; omega
    obtain ⟨x, hx⟩ : ∃ x, x = (b : Int) - 18446744073709551616 := ⟨_, rfl⟩
    rw [← hx] at p1
    have h2 : x < 0 := by omega
    rw [decide_eq_true h]
    clear hx h hb
    generalize (b : Int) = bI at p1 hf
    go_enter Tryd.func34, Tryd.ntmps34
    go_wp2_with fail
    go_ret
    exact ⟨rfl, rfl⟩
  · have p1 : IntKind.i64.wrap (b : Int) = (b : Int) := by rw [IntKind.wrap_i64]; omega
    have h2 : ¬ (b : Int) < 0 := by omega
    rw [decide_eq_false h]
    clear h hb
    generalize (b : Int) = bI at p1 hf h2
    go_enter Tryd.func34, Tryd.ntmps34
    go_wp2_with fail
    go_ret
    exact ⟨rfl, rfl⟩

def rateS (b : Nat) : Bool := decide (b ≤ 4607182418800017408)
theorem rg_small {b : Nat} (h : b < 9223372036854775808) : rg b = b := Nat.mod_eq_of_lt h
theorem ng_small {b : Nat} (h : b < 9223372036854775808) : ng b = false := by
  unfold ng
  rw [Nat.div_eq_of_lt h]
  rfl
theorem rate_tests {b : Nat} (h : b < 9223372036854775808) :
    (Ieee.double.order b 0 == some .gt || Ieee.double.order b 0 == some .eq) = decide (b ≤ inf) ∧ (Ieee.double.order b 4607182418800017408 == some .lt || Ieee.double.order b 4607182418800017408 == some .eq) = decide (b ≤ 4607182418800017408) := by
  have e0 : rg 0 = 0 := rfl
  have e1 : rg 4607182418800017408 = 4607182418800017408 := by decide
  by_cases hi : b ≤ inf
  · have k : key b = b := by unfold key; rw [ng_small h, rg_small h]; rfl
    have k0 : key 0 = 0 := by decide
    have k1 : key 4607182418800017408 = 4607182418800017408 := by decide
    rw [order_key (by rw [rg_small h]; exact hi) (by rw [e0]; exact Nat.zero_le _), order_key (by rw [rg_small h]; exact hi) (by rw [e1]; decide), k, k0, k1, decide_eq_true hi]
    constructor
    · rcases Nat.eq_zero_or_pos b with h0 | h0
      · rw [cmp_eq (by omega)]; rfl
      · rw [cmp_gt (by omega)]; rfl
    · rcases Nat.lt_trichotomy b 4607182418800017408 with h0 | h0 | h0
      · rw [cmp_lt (by omega), decide_eq_true (by omega)]; rfl
      · rw [cmp_eq (by omega), decide_eq_true (by omega)]; rfl
      · rw [cmp_gt (by omega), decide_eq_false (by omega)]; rfl
  · have hn : inf < rg b := by rw [rg_small h]; omega
    rw [order_nan (Or.inl hn), order_nan (Or.inl hn), decide_eq_false hi, decide_eq_false (by unfold inf at hi; omega)]
    exact ⟨rfl, rfl⟩

set_option maxHeartbeats 2000000 in
set_option maxRecDepth 20000 in
theorem rate_any (b : Nat) (w : World) (hb : b < 18446744073709551616) : Calls Tryd.prog 13 #[.float .f64 b] w fun e w' => e = .returned (.bool (rateS b)) ∧ w' = w := by
  have S := fun w => signbit_any b w hb
  by_cases h : b < 9223372036854775808
  · obtain ⟨t0, t1⟩ := rate_tests h
    rw [decide_eq_false (show ¬ 9223372036854775808 ≤ b by omega)] at S
    have hr : rateS b = (decide (b ≤ inf) && decide (b ≤ 4607182418800017408)) := by
      unfold rateS
      by_cases h1 : b ≤ 4607182418800017408
      · rw [decide_eq_true h1, decide_eq_true (by unfold inf; omega)]; rfl
      · rw [decide_eq_false h1, Bool.and_false]
    rw [hr]
    replace t0 : (FloatKind.f64.format.order b 0 == some .gt || FloatKind.f64.format.order b 0 == some .eq) = decide (b ≤ inf) := t0
    replace t1 : (FloatKind.f64.format.order b 4607182418800017408 == some .lt || FloatKind.f64.format.order b 4607182418800017408 == some .eq) = decide (b ≤ 4607182418800017408) := t1
    generalize decide (b ≤ inf) = g0 at t0 ⊢
    generalize decide (b ≤ 4607182418800017408) = g1 at t1 ⊢
    clear hr h hb
    cases g0
    · go_enter Tryd.func13, Tryd.ntmps13
      go_wp2_with fail
      go_ret
      exact ⟨rfl, rfl⟩
    · cases g1
      · go_enter Tryd.func13, Tryd.ntmps13
        go_wp2_with fail
        go_ret
        exact ⟨rfl, rfl⟩
      · go_enter Tryd.func13, Tryd.ntmps13
        go_wp2_with fail
        refine (S _).mono ?_
        rintro e w1 ⟨rfl, rfl⟩
        go_wp2_with fail
        go_ret
        exact ⟨rfl, rfl⟩
  · have hr : rateS b = false := decide_eq_false (by omega)
    rw [hr]
    rw [decide_eq_true (show 9223372036854775808 ≤ b by omega)] at S
    obtain ⟨g0, t0⟩ : ∃ g, (FloatKind.f64.format.order b 0 == some .gt || FloatKind.f64.format.order b 0 == some .eq) = g := ⟨_, rfl⟩
    obtain ⟨g1, t1⟩ : ∃ g, (FloatKind.f64.format.order b 4607182418800017408 == some .lt || FloatKind.f64.format.order b 4607182418800017408 == some .eq) = g := ⟨_, rfl⟩
    clear hr h hb
    cases g0
    · go_enter Tryd.func13, Tryd.ntmps13
      go_wp2_with fail
      go_ret
      exact ⟨rfl, rfl⟩
    · cases g1
      · go_enter Tryd.func13, Tryd.ntmps13
        go_wp2_with fail
        go_ret
        exact ⟨rfl, rfl⟩
      · go_enter Tryd.func13, Tryd.ntmps13
        go_wp2_with fail
        refine (S _).mono ?_
        rintro e w1 ⟨rfl, rfl⟩
        go_wp2_with fail
        go_ret
        exact ⟨rfl, rfl⟩
end Go.Proofs.YtdioaclegmalpaaDoor.Hand
