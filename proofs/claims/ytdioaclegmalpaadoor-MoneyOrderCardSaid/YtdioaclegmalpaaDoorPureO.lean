/- The doubles' one order. -/
import Derived.Test.YtdioaclegmalpaaDoorHandU
namespace Go.Proofs.YtdioaclegmalpaaDoor.Hand
open Go

def nanB (b : Nat) : Bool := decide (inf < rg b)
/-- A double's place among all. -/
def K (b : Nat) : Int := if inf < rg b then 36893488147419103232 else if ng b then -(rg b : Int) - 1 else rg b
def sg (x y : Int) : Int := if x < y then -1 else if x = y then 0 else 1
theorem sg_lt {x y : Int} (h : x < y) : sg x y = -1 := if_pos h
theorem sg_eq {x y : Int} (h : x = y) : sg x y = 0 := by unfold sg; rw [if_neg (by omega), if_pos h]
theorem sg_gt {x y : Int} (h : y < x) : sg x y = 1 := by unfold sg; rw [if_neg (by omega), if_neg (by omega)]
theorem rg_lt (b : Nat) : rg b < 9223372036854775808 := Nat.mod_lt _ (by decide)
theorem order_self (b : Nat) : (Ieee.double.order b b != some .eq) = nanB b := by
  unfold nanB
  by_cases h : inf < rg b
  · rw [order_nan (Or.inl h), decide_eq_true h]
    rfl
  · rw [order_key (by omega) (by omega), cmp_eq rfl, decide_eq_false h]
    rfl
theorem order_zero {b : Nat} (h : ¬ inf < rg b) : (Ieee.double.order b 0 == some .eq) = decide (rg b = 0) := by
  have k0 : key 0 = 0 := by decide
  have r0 : rg 0 = 0 := rfl
  rw [order_key (by omega) (by rw [r0]; exact Nat.zero_le _), k0]
  by_cases hz : rg b = 0
  · have : key b = 0 := by unfold key; rw [hz]; split <;> rfl
    rw [this, cmp_eq rfl, decide_eq_true hz]
    rfl
  · rw [decide_eq_false hz]
    have hk : key b = -(rg b : Int) ∨ key b = (rg b : Int) := by unfold key; split <;> simp
    rcases hk with h1 | h1
    · rw [h1, cmp_lt (by omega)]; rfl
    · rw [h1, cmp_gt (by omega)]; rfl
theorem K_num {b : Nat} (h : ¬ inf < rg b) : K b = if ng b then -(rg b : Int) - 1 else rg b := if_neg h
theorem K_nan {b : Nat} (h : inf < rg b) : K b = 36893488147419103232 := if_pos h
theorem K_bound {b : Nat} (h : ¬ inf < rg b) : K b < 36893488147419103232 := by
  have := rg_lt b
  rw [K_num h]
  split <;> omega
theorem order_lt {a b : Nat} (ha : ¬ inf < rg a) (hb : ¬ inf < rg b) (hz : ¬ (rg a = 0 ∧ rg b = 0)) : (Ieee.double.order a b == some .lt) = decide (K a < K b) ∧ (Ieee.double.order a b == some .gt) = decide (K b < K a) := by
  rw [order_key (by omega) (by omega), K_num ha, K_num hb]
  unfold key
  have tri : ∀ x y X Y : Int, (x < y → X < Y) → (x = y → X = Y) → (y < x → Y < X) → ((some (compare x y) == some Ordering.lt) = decide (X < Y) ∧ (some (compare x y) == some Ordering.gt) = decide (Y < X)) := by
    intro x y X Y h1 h2 h3
    rcases Int.lt_trichotomy x y with h | h | h
    · have := h1 h
      rw [cmp_lt h, decide_eq_true this, decide_eq_false (by omega)]
      exact ⟨rfl, rfl⟩
    · have := h2 h
      rw [cmp_eq h, decide_eq_false (by omega), decide_eq_false (by omega)]
      exact ⟨rfl, rfl⟩
    · have := h3 h
      rw [cmp_gt h, decide_eq_false (by omega), decide_eq_true this]
      exact ⟨rfl, rfl⟩
  generalize rg a = r at hz ⊢
  generalize rg b = s at hz ⊢
  cases ng a <;> cases ng b <;> simp only [if_true, Bool.false_eq_true, if_false] <;> apply tri <;> omega
theorem pM_ng {b : Nat} (hb : b < 18446744073709551616) : pM b = ng b := by
  unfold pM ng
  by_cases h : 9223372036854775808 ≤ b
  · rw [decide_eq_true h, show b / 9223372036854775808 = 1 by omega]; rfl
  · rw [decide_eq_false h, show b / 9223372036854775808 = 0 by omega]; rfl
/-- What the parts say, by the rung. -/
theorem parts_rg (b : Nat) : pE b = rg b / 4503599627370496 ∧ b % 4503599627370496 = rg b % 4503599627370496 := by
  unfold pE rg
  omega
theorem rank_law {b : Nat} (hb : b < 18446744073709551616) : rankS b = if inf < rg b then 6 else if rg b = inf then (if ng b then 0 else 5) else if rg b = 0 then (if ng b then 2 else 3) else if ng b then 1 else 4 := by
  obtain ⟨e1, e2⟩ := parts_rg b
  have hr := rg_lt b
  unfold rankS
  rw [pM_ng hb]
  have hO : pO b = decide (¬ rg b / 4503599627370496 = 2047) := by unfold pO; rw [e1]
  have hW : pW b = if rg b / 4503599627370496 = 2047 ∨ rg b / 4503599627370496 = 0 then rg b % 4503599627370496 else rg b % 4503599627370496 + 4503599627370496 := by unfold pW; rw [e1, e2]
  rw [hO, hW]
  unfold inf
  generalize rg b = r at hr ⊢
  clear e1 e2 hO hW
  by_cases h1 : r / 4503599627370496 = 2047
  · rw [if_pos (show decide (¬ r / 4503599627370496 = 2047) = false by simpa using h1), if_pos (Or.inl h1)]
    by_cases h2 : 0 < r % 4503599627370496
    · rw [if_pos h2, if_pos (show 9218868437227405312 < r by omega)]
    · rw [if_neg h2, if_neg (show ¬ 9218868437227405312 < r by omega), if_pos (show r = 9218868437227405312 by omega)]
  · rw [if_neg (show ¬ decide (¬ r / 4503599627370496 = 2047) = false by simpa using h1), if_neg (show ¬ 9218868437227405312 < r by omega), if_neg (show ¬ r = 9218868437227405312 by omega)]
    by_cases h3 : r = 0
    · subst h3
      rw [if_pos (Or.inr (by decide)), if_pos (show 0 % 4503599627370496 = 0 by decide)]
      try rfl
    · rw [if_neg h3]
      have : ¬ (if r / 4503599627370496 = 2047 ∨ r / 4503599627370496 = 0 then r % 4503599627370496 else r % 4503599627370496 + 4503599627370496) = 0 := by split <;> omega
      rw [if_neg this]
end Go.Proofs.YtdioaclegmalpaaDoor.Hand
