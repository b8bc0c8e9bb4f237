/- The plain law of the document's long multiplication. -/
import Derived.Test.YtdioaclegmalpaaDoorHandU
import Derived.Test.YtdioaclegmalpaaDoorPureQ
namespace Go.Proofs.YtdioaclegmalpaaDoor.Hand
open Go

theorem rate_parts {b : Nat} (hb : b < 18446744073709551616) : rateS b = (pO b && !pM b && (decide (pP b < -52) || (decide (pP b = -52) && decide (pW b = 4503599627370496)) || decide (pW b = 0))) := by
  unfold rateS pO pM pP pW pE
  by_cases h1 : b / 4503599627370496 % 2048 = 2047
  · rw [decide_eq_false (show ¬ ¬ b / 4503599627370496 % 2048 = 2047 by omega), decide_eq_false (show ¬ b ≤ 4607182418800017408 by omega)]
    rfl
  · rw [decide_eq_true h1, if_neg h1, Bool.true_and]
    by_cases h2 : 9223372036854775808 ≤ b
    · rw [decide_eq_true h2, decide_eq_false (show ¬ b ≤ 4607182418800017408 by omega)]
      rfl
    · rw [decide_eq_false h2, Bool.not_false, Bool.true_and]
      by_cases h3 : b / 4503599627370496 % 2048 = 0
      · rw [if_pos h3, decide_eq_true (show (-1074 : Int) < -52 by decide), decide_eq_true (show b ≤ 4607182418800017408 by omega)]
        rfl
      · rw [if_neg h3, if_neg (show ¬ (b / 4503599627370496 % 2048 = 2047 ∨ b / 4503599627370496 % 2048 = 0) by omega), decide_eq_false (show ¬ b % 4503599627370496 + 4503599627370496 = 0 by omega), Bool.or_false]
        by_cases h4 : b ≤ 4607182418800017408
        · rw [decide_eq_true h4]
          by_cases h5 : b / 4503599627370496 % 2048 < 1023
          · rw [decide_eq_true (by omega)]
            rfl
          · rw [decide_eq_false (by omega), decide_eq_true (by omega), decide_eq_true (by omega)]
            rfl
        · rw [decide_eq_false h4, decide_eq_false (by omega), Bool.false_or]
          by_cases h5 : b / 4503599627370496 % 2048 = 1023
          · rw [decide_eq_false (show ¬ b % 4503599627370496 + 4503599627370496 = 4503599627370496 by omega), Bool.and_false]
          · rw [decide_eq_false (by omega), Bool.false_and]
theorem parts_rate {b : Nat} (hb : b ≤ 4607182418800017408) : pW b = mant b ∧ pP b = -(byN b : Int) ∧ 52 ≤ byN b ∧ byN b ≤ 1074 := by
  unfold pW pP byN mant pE
  refine ⟨?_, ?_, ?_, ?_⟩ <;> (repeat' split) <;> omega

/-- A number's digits in base 2^32. -/
def digN (X k : Nat) : Nat := match k with
  | 0 => X % 4294967296
  | 1 => X / 4294967296 % 4294967296
  | 2 => X / 18446744073709551616 % 4294967296
  | _ => X / 79228162514264337593543950336 % 4294967296
def mixV (X i : Nat) : Array Value := #[.int .u64 (if 0 < i then digN (X / 2) 0 else digN X 0 : Nat), .int .u64 (if 1 < i then digN (X / 2) 1 else digN X 1 : Nat), .int .u64 (if 2 < i then digN (X / 2) 2 else digN X 2 : Nat), .int .u64 (if 3 < i then digN (X / 2) 3 else digN X 3 : Nat)]
theorem mix_size (X i : Nat) : (mixV X i).size = 4 := rfl
theorem mix_four (X : Nat) : mixV X 4 = mixV (X / 2) 0 := rfl
theorem mix_at (X i : Nat) (h : i < 4) : (mixV X i)[i]? = some (.int .u64 (digN X i : Nat)) := by
  match i, h with
  | 0, _ => rfl
  | 1, _ => rfl
  | 2, _ => rfl
  | 3, _ => rfl
theorem mix_succ (X i : Nat) (h : i < 3) : (mixV X i)[i + 1]? = some (.int .u64 (digN X (i + 1) : Nat)) := by
  match i, h with
  | 0, _ => rfl
  | 1, _ => rfl
  | 2, _ => rfl
theorem mix_set (X i : Nat) (h : i < 4) : (mixV X i).setIfInBounds i (.int .u64 (digN (X / 2) i : Nat)) = mixV X (i + 1) := by
  match i, h with
  | 0, _ => rfl
  | 1, _ => rfl
  | 2, _ => rfl
  | 3, _ => rfl
theorem dig_half (X i : Nat) (h : i < 3) : digN (X / 2) i = digN X i / 2 + digN X (i + 1) % 2 * 2147483648 := by
  match i, h with
  | 0, _ => show X / 2 % 4294967296 = X % 4294967296 / 2 + X / 4294967296 % 4294967296 % 2 * 2147483648; omega
  | 1, _ => show X / 2 / 4294967296 % 4294967296 = X / 4294967296 % 4294967296 / 2 + X / 18446744073709551616 % 4294967296 % 2 * 2147483648; omega
  | 2, _ => show X / 2 / 18446744073709551616 % 4294967296 = X / 18446744073709551616 % 4294967296 / 2 + X / 79228162514264337593543950336 % 4294967296 % 2 * 2147483648; omega
theorem dig_last (X : Nat) (h : X < 340282366920938463463374607431768211456) : digN (X / 2) 3 = digN X 3 / 2 := by
  show X / 2 / 79228162514264337593543950336 % 4294967296 = X / 79228162514264337593543950336 % 4294967296 / 2
  omega
theorem dig_bound (X k : Nat) : digN X k < 4294967296 := by
  unfold digN
  split <;> omega
/-- The long multiplication. -/
theorem long_mul (a w : Nat) : ∀ p00 p10 p01 p11 : Nat, p00 = a % 4294967296 * (w % 4294967296) → p10 = a / 4294967296 * (w % 4294967296) → p01 = w / 4294967296 * (a % 4294967296) → p11 = a / 4294967296 * (w / 4294967296) → a * w = p00 + (p10 + p01) * 4294967296 + p11 * 18446744073709551616 := by
  intro p00 p10 p01 p11 h0 h1 h2 h3
  obtain ⟨a0, ha0⟩ : ∃ x, x = a % 4294967296 := ⟨_, rfl⟩
  obtain ⟨a1, ha1⟩ : ∃ x, x = a / 4294967296 := ⟨_, rfl⟩
  obtain ⟨w0, hw0⟩ : ∃ x, x = w % 4294967296 := ⟨_, rfl⟩
  obtain ⟨w1, hw1⟩ : ∃ x, x = w / 4294967296 := ⟨_, rfl⟩
  have ea : a = a0 + a1 * 4294967296 := by omega
  have ew : w = w0 + w1 * 4294967296 := by omega
  rw [h0, h1, h2, h3, ← ha0, ← ha1, ← hw0, ← hw1, ea, ew, Nat.add_mul, Nat.mul_add, Nat.mul_add]
  have e1 : a1 * 4294967296 * w0 = a1 * w0 * 4294967296 := by rw [Nat.mul_right_comm]
  have e2 : a1 * 4294967296 * (w1 * 4294967296) = a1 * w1 * 18446744073709551616 := by
    rw [Nat.mul_mul_mul_comm]
  have e3 : a0 * (w1 * 4294967296) = w1 * a0 * 4294967296 := by rw [← Nat.mul_assoc, Nat.mul_comm a0 w1]
  rw [e1, e2, e3]
  generalize a0 * w0 = x
  generalize a1 * w0 = y
  generalize w1 * a0 = z
  generalize a1 * w1 = v
  omega
theorem dig_result (X : Nat) (h : X < 18446744073709551616) : digN X 1 * 4294967296 + digN X 0 = X := by
  show X / 4294967296 % 4294967296 * 4294967296 + X % 4294967296 = X
  omega
/-- What fell off last behind j halvings. -/
def halfN (P : Nat) : Nat → Nat
  | 0 => 0
  | j + 1 => P / 2 ^ j % 2
end Go.Proofs.YtdioaclegmalpaaDoor.Hand
