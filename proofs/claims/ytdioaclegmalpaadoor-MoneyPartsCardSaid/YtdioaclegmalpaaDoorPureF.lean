/- The order of the doubles, by their bits. -/
import Derived.Test.YtdioaclegmalpaaDoorXAx0
namespace Go.Proofs.YtdioaclegmalpaaDoor.Hand
open Ieee

def rg (b : Nat) : Nat := b % 9223372036854775808
def ng (b : Nat) : Bool := b / 9223372036854775808 % 2 == 1
def expo (r : Nat) : Nat := r / 4503599627370496 - 1
def mant (r : Nat) : Nat := if r < 4503599627370496 then r else 4503599627370496 + r % 4503599627370496
/-- What a rung stands for, in the least units. -/
def V (r : Nat) : Nat := mant r * 2 ^ expo r
theorem V_step (r : Nat) : V r < V (r + 1) := by
  unfold V mant expo
  by_cases h1 : r + 1 < 4503599627370496
  · rw [if_pos h1, if_pos (by omega), show (r + 1) / 4503599627370496 - 1 = 0 by omega, show r / 4503599627370496 - 1 = 0 by omega]
    omega
  · rw [if_neg h1]
    by_cases h2 : r < 4503599627370496
    · rw [if_pos h2, show (r + 1) / 4503599627370496 - 1 = 0 by omega, show r / 4503599627370496 - 1 = 0 by omega]
      omega
    · rw [if_neg h2]
      by_cases h3 : (r + 1) % 4503599627370496 = 0
      · obtain ⟨e, he⟩ : ∃ e, e = r / 4503599627370496 - 1 := ⟨_, rfl⟩
        have e1 : (r + 1) / 4503599627370496 - 1 = e + 1 := by omega
        rw [e1, ← he, h3, Nat.pow_succ, show r % 4503599627370496 = 4503599627370495 by omega]
        have hp := Nat.two_pow_pos e
        generalize 2 ^ e = p at hp ⊢
        omega
      · have e1 : (r + 1) / 4503599627370496 = r / 4503599627370496 := by omega
        have e2 : (r + 1) % 4503599627370496 = r % 4503599627370496 + 1 := by omega
        rw [e1, e2]
        exact Nat.mul_lt_mul_of_pos_right (by omega) (Nat.two_pow_pos _)
theorem V_lt {r s : Nat} (h : r < s) : V r < V s := by
  obtain ⟨d, rfl⟩ : ∃ d, s = r + 1 + d := ⟨s - (r + 1), by omega⟩
  clear h
  induction d with
  | zero => exact V_step r
  | succ d ih => exact Nat.lt_trans ih (V_step _)
theorem V_le {r s : Nat} (h : r ≤ s) : V r ≤ V s := by
  rcases Nat.lt_or_eq_of_le h with h | h
  · exact Nat.le_of_lt (V_lt h)
  · rw [h]; exact Nat.le_refl _
/-- A double's place among all, but for what is no number. -/
def key (b : Nat) : Int := if ng b then -(rg b : Int) else rg b
def inf : Nat := 9218868437227405312

theorem cmp_lt {x y : Int} (h : x < y) : compare x y = .lt := by simp only [compare, compareOfLessAndEq, if_pos h]
theorem cmp_eq {x y : Int} (h : x = y) : compare x y = .eq := by simp only [compare, compareOfLessAndEq, if_neg (show ¬ x < y by omega), if_pos h]
theorem cmp_gt {x y : Int} (h : y < x) : compare x y = .gt := by simp only [compare, compareOfLessAndEq, if_neg (show ¬ x < y by omega), if_neg (show ¬ x = y by omega)]

theorem read_num (b : Nat) (h : rg b < inf) : Ieee.double.read b = .number (ng b) (mant (rg b)) (-1074 + (expo (rg b) : Int)) := by
  unfold Format.read
  have e1 : Ieee.double.signWeight = 9223372036854775808 := by decide
  have e2 : Ieee.double.binade = 4503599627370496 := by decide
  have e3 : Ieee.double.infRung = 9218868437227405312 := by decide
  have e4 : Ieee.double.leastPlace = -1074 := by decide
  rw [e1, e2, e3, e4]
  have hr : b % 9223372036854775808 < 9218868437227405312 := h
  unfold ng rg mant expo
  dsimp only
  by_cases h1 : b % 9223372036854775808 < 4503599627370496
  · rw [if_pos h1, if_pos h1]
    congr 1
    omega
  · rw [if_neg h1, if_neg h1, if_pos hr]
theorem read_inf (b : Nat) (h : rg b = inf) : Ieee.double.read b = .infinity (ng b) := by
  unfold Format.read
  have e1 : Ieee.double.signWeight = 9223372036854775808 := by decide
  have e2 : Ieee.double.binade = 4503599627370496 := by decide
  have e3 : Ieee.double.infRung = 9218868437227405312 := by decide
  rw [e1, e2, e3]
  have hr : b % 9223372036854775808 = 9218868437227405312 := h
  unfold ng
  dsimp only
  rw [hr, if_neg (by decide), if_neg (by decide), if_pos rfl]
theorem read_nan (b : Nat) (h : inf < rg b) : ∃ s t, Ieee.double.read b = .nan s t := by
  unfold Format.read
  have e1 : Ieee.double.signWeight = 9223372036854775808 := by decide
  have e2 : Ieee.double.binade = 4503599627370496 := by decide
  have e3 : Ieee.double.infRung = 9218868437227405312 := by decide
  rw [e1, e2, e3]
  have hr : 9218868437227405312 < b % 9223372036854775808 := h
  dsimp only
  rw [if_neg (by omega), if_neg (by omega), if_neg (by omega)]
  exact ⟨_, _, rfl⟩
theorem order_nan {a b : Nat} (h : inf < rg a ∨ inf < rg b) : Ieee.double.order a b = none := by
  unfold Format.order
  rcases h with h | h
  · obtain ⟨s, t, e⟩ := read_nan a h
    rw [e]
    cases Ieee.double.read b <;> rfl
  · obtain ⟨s, t, e⟩ := read_nan b h
    rw [e]
    cases Ieee.double.read a <;> rfl
theorem cmp_scale (x y : Int) (p : Nat) (hp : 0 < p) : compare (x * p) (y * p) = compare x y := by
  have hp' : (0 : Int) < p := by omega
  rcases Int.lt_trichotomy x y with h | h | h
  · rw [cmp_lt h, cmp_lt (Int.mul_lt_mul_of_pos_right h hp')]
  · rw [h, cmp_eq rfl, cmp_eq rfl]
  · rw [cmp_gt h, cmp_gt (Int.mul_lt_mul_of_pos_right h hp')]
theorem signed_scale (s : Bool) (m e k : Nat) (h : k ≤ e) : signed s m (e - k) * (2 ^ k : Nat) = if s then -((m * 2 ^ e : Nat) : Int) else ((m * 2 ^ e : Nat) : Int) := by
  have hm : (m <<< (e - k)) * 2 ^ k = m * 2 ^ e := by
    rw [Nat.shiftLeft_eq, Nat.mul_assoc, ← Nat.pow_add, Nat.sub_add_cancel h]
  unfold signed
  cases s
  · rw [if_neg (by decide), if_neg (by decide), ← hm, Int.natCast_mul]
  · rw [if_pos rfl, if_pos rfl, ← hm, Int.natCast_mul, Int.neg_mul]
/-- The greater of two data, as numbers in the least unit. -/
theorem order_num {a b : Nat} (ha : rg a < inf) (hb : rg b < inf) : Ieee.double.order a b = some (compare (if ng a then -((V (rg a) : Nat) : Int) else ((V (rg a) : Nat) : Int)) (if ng b then -((V (rg b) : Nat) : Int) else ((V (rg b) : Nat) : Int))) := by
  unfold Format.order
  rw [read_num a ha, read_num b hb]
  unfold Datum.order
  dsimp only
  congr 1
  obtain ⟨e, he⟩ : ∃ e, e = expo (rg a) := ⟨_, rfl⟩
  obtain ⟨f, hf⟩ : ∃ f, f = expo (rg b) := ⟨_, rfl⟩
  rw [← he, ← hf]
  obtain ⟨k, hk⟩ : ∃ k, k = min e f := ⟨_, rfl⟩
  have e1 : (-1074 + (e : Int) - min (-1074 + (e : Int)) (-1074 + (f : Int))).toNat = e - k := by omega
  have e2 : (-1074 + (f : Int) - min (-1074 + (e : Int)) (-1074 + (f : Int))).toNat = f - k := by omega
  rw [e1, e2, ← cmp_scale _ _ (2 ^ k) (Nat.two_pow_pos _), signed_scale _ _ _ _ (by omega), signed_scale _ _ _ _ (by omega), he, hf]
  rfl
/-- The order of what is a number, or infinite: that of their places. -/
theorem order_key {a b : Nat} (ha : rg a ≤ inf) (hb : rg b ≤ inf) : Ieee.double.order a b = some (compare (key a) (key b)) := by
  have V0 : V 0 = 0 := by decide
  rcases Nat.lt_or_eq_of_le ha with ha | ha
  · rcases Nat.lt_or_eq_of_le hb with hb | hb
    · rw [order_num ha hb]
      congr 1
      have m1 : ∀ r s : Nat, (r < s → V r < V s) := fun r s => V_lt
      have pa := m1 0 (rg a)
      have pb := m1 0 (rg b)
      have l1 := m1 (rg a) (rg b)
      have l2 := m1 (rg b) (rg a)
      have l3 : rg a = rg b → V (rg a) = V (rg b) := fun h => by rw [h]
      have l4 : rg a = 0 → V (rg a) = 0 := fun h => by rw [h, V0]
      have l5 : rg b = 0 → V (rg b) = 0 := fun h => by rw [h, V0]
      rw [V0] at pa pb
      unfold key
      generalize V (rg a) = x at pa l1 l2 l3 l4 ⊢
      generalize V (rg b) = y at pb l1 l2 l3 l5 ⊢
      generalize rg a = r at pa l1 l2 l3 l4 ⊢
      generalize rg b = s at pb l1 l2 l3 l5 ⊢
      clear m1
      have tri : ∀ p q p' q' : Int, (p < q → p' < q') → (p = q → p' = q') → (q < p → q' < p') → compare p' q' = compare p q := by
        intro p q p' q' h1 h2 h3
        rcases Int.lt_trichotomy p q with h | h | h
        · rw [cmp_lt h, cmp_lt (h1 h)]
        · rw [cmp_eq h, cmp_eq (h2 h)]
        · rw [cmp_gt h, cmp_gt (h3 h)]
      cases ng a <;> cases ng b <;> simp only [if_true, Bool.false_eq_true, if_false] <;> apply tri <;> omega
    · unfold Format.order
      rw [read_num a ha, read_inf b hb]
      unfold Datum.order key
      rw [hb]
      have : (rg a : Int) < (inf : Int) := by omega
      have hi : (0 : Int) < (inf : Int) := by decide
      generalize inf = I at hi this ⊢
      cases ng a <;> cases ng b <;> simp only [if_true, Bool.false_eq_true, if_false]
      · exact congrArg some (cmp_lt (by omega)).symm
      · exact congrArg some (cmp_gt (by omega)).symm
      · exact congrArg some (cmp_lt (by omega)).symm
      · exact congrArg some (cmp_gt (by omega)).symm
  · rcases Nat.lt_or_eq_of_le hb with hb | hb
    · unfold Format.order
      rw [read_inf a ha, read_num b hb]
      unfold Datum.order key
      rw [ha]
      have : (rg b : Int) < (inf : Int) := by omega
      have hi : (0 : Int) < (inf : Int) := by decide
      generalize inf = I at hi this ⊢
      cases ng a <;> cases ng b <;> simp only [if_true, Bool.false_eq_true, if_false]
      · exact congrArg some (cmp_gt (by omega)).symm
      · exact congrArg some (cmp_gt (by omega)).symm
      · exact congrArg some (cmp_lt (by omega)).symm
      · exact congrArg some (cmp_lt (by omega)).symm
    · unfold Format.order
      rw [read_inf a ha, read_inf b hb]
      unfold Datum.order key
      rw [ha, hb]
      have hi : (0 : Int) < (inf : Int) := by decide
      generalize inf = I at hi ⊢
      cases ng a <;> cases ng b <;> simp only [if_true, Bool.false_eq_true, if_false]
      · exact congrArg some (cmp_eq rfl).symm
      · exact congrArg some (cmp_gt (by omega)).symm
      · exact congrArg some (cmp_lt (by omega)).symm
      · exact congrArg some (cmp_eq rfl).symm
end Go.Proofs.YtdioaclegmalpaaDoor.Hand
