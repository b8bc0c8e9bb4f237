/- The plain law of Scale: the program's bits come to the product's rounding. -/
import Derived.Test.YtdioaclegmalpaaDoorPureF
import Derived.Laws.Bits64b
namespace Go.Proofs.YtdioaclegmalpaaDoor.Hand
open Go Go.RowKit

/-- X halved, what falls off added again. -/
def roundX (X : Nat) : Nat := X / 2 + X % 2
theorem w64 (n : Int) (h : -9223372036854775808 ≤ n ∧ n ≤ 9223372036854775807) : wrap64 n = n := by unfold wrap64; omega
theorem tail_law (X : Nat) (hX : X < 9223372036854775808) : wrap64 (IntKind.u64.wrap (bits BinOp.or IntKind.u64 ((X : Int) / 2) 0 + bits BinOp.and IntKind.u64 (X : Int) 1)) = (roundX X : Nat) := by
  have e1 : (X : Int) / 2 = ((X / 2 : Nat) : Int) := by omega
  have e2 := bits_or_u64_nat (X / 2) 0 (by omega) (by omega)
  have e3 := bits_and_u64_nat X 1 (by omega) (by omega)
  rw [Nat.or_zero] at e2
  rw [Nat.and_one_is_mod] at e3
  rw [e1, show (0 : Int) = ((0 : Nat) : Int) from rfl, e2, show (1 : Int) = ((1 : Nat) : Int) from rfl, e3, IntKind.wrap_u64]
  unfold roundX
  rw [w64 _ (by omega)]
  omega
theorem idiv (a k : Nat) : (a : Int) / 2 ^ k = ((a / 2 ^ k : Nat) : Int) := by simp
theorem imul (a k : Nat) : (a : Int) * 2 ^ k = ((a * 2 ^ k : Nat) : Int) := by simp
theorem div_div_pow (P j k : Nat) : P / 2 ^ j / 2 ^ k = P / 2 ^ (j + k) := by rw [Nat.div_div_eq_div_mul, ← Nat.pow_add]
theorem res2 (P y : Nat) (hP : P ≤ 2 ^ 106) (h1 : 64 < y) (h2 : y ≤ 107) : wrap64 (IntKind.u64.wrap (bits BinOp.or IntKind.u64 (((P / 18446744073709551616 : Nat) : Int) / 2 ^ ((y : Int) - 65).toNat / 2) 0 + bits BinOp.and IntKind.u64 (((P / 18446744073709551616 : Nat) : Int) / 2 ^ ((y : Int) - 65).toNat) 1)) = (roundX (P / 2 ^ (y - 1)) : Nat) := by
  have e : ((P / 18446744073709551616 : Nat) : Int) / 2 ^ ((y : Int) - 65).toNat = ((P / 2 ^ (y - 1) : Nat) : Int) := by
    rw [idiv, show (18446744073709551616 : Nat) = 2 ^ 64 by decide, div_div_pow, show 64 + ((y : Int) - 65).toNat = y - 1 by omega]
  rw [e]
  refine tail_law _ ?_
  have hp : 2 ^ 64 ≤ 2 ^ (y - 1) := Nat.pow_le_pow_right (by decide) (by omega)
  refine Nat.lt_of_le_of_lt (Nat.div_le_div_left hp (by decide)) ?_
  exact Nat.lt_of_le_of_lt (Nat.div_le_div_right hP) (by decide)
theorem or_add (a b k : Nat) (hb : b < 2 ^ k) : a * 2 ^ k ||| b = a * 2 ^ k + b := by
  have h := Nat.shiftLeft_add_eq_or_of_lt hb a
  rw [Nat.shiftLeft_eq] at h
  exact h.symm
/-- The 128 bits, shifted by s1 with s1 + s2 = 64. -/
theorem shifted (P s1 s2 : Nat) (hs : s1 + s2 = 64) (hP : P < 2 ^ 64 * 2 ^ s1) : bits BinOp.or IntKind.u64 (IntKind.u64.wrap (((P / 18446744073709551616 : Nat) : Int) * 2 ^ s2)) (((P % 18446744073709551616 : Nat) : Int) / 2 ^ s1) = ((P / 2 ^ s1 : Nat) : Int) := by
  have p64 : (18446744073709551616 : Nat) = 2 ^ s1 * 2 ^ s2 := by rw [← Nat.pow_add, hs]
  have p1 := Nat.two_pow_pos s1
  have p2 := Nat.two_pow_pos s2
  obtain ⟨H, hH⟩ : ∃ H, H = P / 18446744073709551616 := ⟨_, rfl⟩
  obtain ⟨L, hL⟩ : ∃ L, L = P % 18446744073709551616 := ⟨_, rfl⟩
  have hPe : P = 18446744073709551616 * H + L := by rw [hH, hL]; exact (Nat.div_add_mod _ _).symm
  have hLt : L < 2 ^ s2 * 2 ^ s1 := by rw [hL, Nat.mul_comm, ← p64]; exact Nat.mod_lt _ (by decide)
  have hL2 : L / 2 ^ s1 < 2 ^ s2 := Nat.div_lt_of_lt_mul (by rw [Nat.mul_comm]; exact hLt)
  have hX : P / 2 ^ s1 = H * 2 ^ s2 + L / 2 ^ s1 := by
    have e : P = L + 2 ^ s1 * (2 ^ s2 * H) := by rw [← Nat.mul_assoc, ← p64]; omega
    rw [e, Nat.add_mul_div_left _ _ p1, Nat.mul_comm H]
    exact Nat.add_comm ..
  have hXl : P / 2 ^ s1 < 18446744073709551616 := Nat.div_lt_of_lt_mul (by rw [Nat.mul_comm]; exact hP)
  rw [hX] at hXl
  have hA : H * 2 ^ s2 < 18446744073709551616 := Nat.lt_of_le_of_lt (Nat.le_add_right _ _) hXl
  have hB : L / 2 ^ s1 < 18446744073709551616 := Nat.lt_of_le_of_lt (Nat.le_add_left _ _) hXl
  rw [← hH, ← hL, imul, idiv, IntKind.wrap_u64, hX, ← or_add _ _ _ hL2]
  generalize H * 2 ^ s2 = a at hA ⊢
  generalize L / 2 ^ s1 = c at hB ⊢
  have e1 : ((a : Nat) : Int) % 18446744073709551616 = (a : Int) := by omega
  rw [e1, bits_or_u64_nat _ _ hA hB]
theorem res4 (P y : Nat) (hP : P ≤ 2 ^ 106) (h1 : 52 ≤ y) (h2 : y ≤ 64) (s1 s2 : Nat) (e1 : s1 = y - 1) (e2 : s2 = 65 - y) : wrap64 (IntKind.u64.wrap (bits BinOp.or IntKind.u64 (bits BinOp.or IntKind.u64 (IntKind.u64.wrap (((P / 18446744073709551616 : Nat) : Int) * 2 ^ s2)) (((P % 18446744073709551616 : Nat) : Int) / 2 ^ s1) / 2) (IntKind.u64.wrap (((P / 18446744073709551616 : Nat) : Int) / 2 ^ s1 * 9223372036854775808)) + bits BinOp.and IntKind.u64 (bits BinOp.or IntKind.u64 (IntKind.u64.wrap (((P / 18446744073709551616 : Nat) : Int) * 2 ^ s2)) (((P % 18446744073709551616 : Nat) : Int) / 2 ^ s1)) 1)) = (roundX (P / 2 ^ (y - 1)) : Nat) := by
  have hp : 2 ^ 51 ≤ 2 ^ s1 := Nat.pow_le_pow_right (by decide) (by omega)
  have hPl : P < 2 ^ 64 * 2 ^ s1 := Nat.lt_of_le_of_lt hP (Nat.lt_of_lt_of_le (by decide : 2 ^ 106 < 2 ^ 64 * 2 ^ 51) (Nat.mul_le_mul_left _ hp))
  have hz : P / 18446744073709551616 / 2 ^ s1 = 0 := by
    rw [show (18446744073709551616 : Nat) = 2 ^ 64 by decide, Nat.div_div_eq_div_mul]
    exact Nat.div_eq_of_lt hPl
  rw [shifted P s1 s2 (by omega) hPl, idiv, hz, e1]
  refine tail_law _ ?_
  rw [← e1]
  refine Nat.lt_of_le_of_lt (Nat.div_le_div_left hp (by decide)) ?_
  exact Nat.lt_of_le_of_lt (Nat.div_le_div_right hP) (by decide)
/-- How often a rate's digits are halved. -/
def byN (b : Nat) : Nat := if b < 4503599627370496 then 1074 else 1075 - b / 4503599627370496
/-- An amount times a rate, to the last half of a penny. -/
def scaleN (n b : Nat) : Nat := roundX (n * mant b / 2 ^ (byN b - 1))
theorem mant_lt (b : Nat) : mant b < 9007199254740992 := by unfold mant; split <;> omega
theorem prod_le (n b : Nat) (hn : n ≤ 9007199254740992) : n * mant b ≤ 2 ^ 106 := by
  have h := mant_lt b
  exact Nat.le_trans (Nat.mul_le_mul hn (Nat.le_of_lt h)) (by decide)
theorem scale_far (n b : Nat) (hn : n ≤ 9007199254740992) (h : 107 < byN b) : scaleN n b = 0 := by
  unfold scaleN
  have hp : 2 ^ 107 ≤ 2 ^ (byN b - 1) := Nat.pow_le_pow_right (by decide) (by omega)
  rw [Nat.div_eq_of_lt (Nat.lt_of_le_of_lt (prod_le n b hn) (Nat.lt_of_lt_of_le (by decide) hp))]
  rfl
theorem mask_law (b : Nat) (hb : b < 18446744073709551616) : bits BinOp.and IntKind.u64 (b : Int) 4503599627370495 = ((b % 4503599627370496 : Nat) : Int) := by
  have h := bits_and_u64_nat b 4503599627370495 hb (by omega)
  have e : b &&& 4503599627370495 = b % 4503599627370496 := Nat.and_two_pow_sub_one_eq_mod b 52
  rw [e] at h
  exact h
theorem lead_law (m : Nat) (hm : m < 4503599627370496) : bits BinOp.or IntKind.u64 (m : Int) 4503599627370496 = ((4503599627370496 + m : Nat) : Int) := by
  have h := bits_or_u64_nat m 4503599627370496 (by omega) (by omega)
  have e : m ||| 4503599627370496 = 4503599627370496 + m := by
    have h := or_add 1 m 52 hm
    rw [Nat.or_comm]
    exact h
  rw [e] at h
  exact h
end Go.Proofs.YtdioaclegmalpaaDoor.Hand
