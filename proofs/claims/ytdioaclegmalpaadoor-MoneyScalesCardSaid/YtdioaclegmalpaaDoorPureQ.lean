/- The plain laws of amounts times rates: more of either comes to no less; two amounts together. -/
import Derived.Test.YtdioaclegmalpaaDoorHandG
namespace Go.Proofs.YtdioaclegmalpaaDoor.Hand
open Go

theorem by_expo (b : Nat) : byN b = 1074 - expo b := by unfold byN expo; split <;> omega
theorem scale_V (n b : Nat) (hb : b ≤ 4607182418800017408) : n * mant b / 2 ^ (byN b - 1) = n * V b / 2 ^ 1073 := by
  have he : expo b ≤ 1022 := by unfold expo; omega
  have e1 : n * V b = n * mant b * 2 ^ expo b := by unfold V; rw [Nat.mul_assoc]
  have e2 : 2 ^ 1073 = 2 ^ (byN b - 1) * 2 ^ expo b := by rw [← Nat.pow_add, by_expo]; congr 1; omega
  rw [e1, e2, Nat.mul_div_mul_right _ _ (Nat.two_pow_pos _)]
theorem round_mono {X Y : Nat} (h : X ≤ Y) : roundX X ≤ roundX Y := by unfold roundX; omega
theorem scale_mono {n m b : Nat} (h : n ≤ m) : scaleN n b ≤ scaleN m b := round_mono (Nat.div_le_div_right (Nat.mul_le_mul_right _ h))
theorem scale_rate {n f g : Nat} (hg : g ≤ 4607182418800017408) (h : f ≤ g) : scaleN n f ≤ scaleN n g := by
  unfold scaleN
  rw [scale_V n f (Nat.le_trans h hg), scale_V n g hg]
  exact round_mono (Nat.div_le_div_right (Nat.mul_le_mul_left _ (V_le h)))
theorem scale_one (n : Nat) : scaleN n 4607182418800017408 = n := by
  unfold scaleN
  have e1 : mant 4607182418800017408 = 2 ^ 52 := by decide
  have e2 : byN 4607182418800017408 - 1 = 51 := by decide
  rw [e1, e2, show (2 : Nat) ^ 52 = 2 * 2 ^ 51 by decide, ← Nat.mul_assoc, Nat.mul_div_cancel _ (Nat.two_pow_pos _)]
  unfold roundX
  omega
theorem scale_none (n : Nat) : scaleN n 0 = 0 := by
  unfold scaleN
  have e1 : mant 0 = 0 := by decide
  rw [e1, Nat.mul_zero, Nat.zero_div]
  rfl
theorem scale_le {n b : Nat} (hb : b ≤ 4607182418800017408) : scaleN n b ≤ n := by
  have h := scale_rate (n := n) (Nat.le_refl _) hb
  rw [scale_one] at h
  exact h
theorem scale_add (n m b : Nat) : scaleN (n + m) b ≤ scaleN n b + scaleN m b + 1 ∧ scaleN n b + scaleN m b ≤ scaleN (n + m) b + 1 := by
  unfold scaleN
  generalize 2 ^ (byN b - 1) = p
  rcases Nat.eq_zero_or_pos p with h0 | hp
  · rw [h0, Nat.div_zero, Nat.div_zero, Nat.div_zero]
    decide
  · rw [Nat.add_mul]
    generalize n * mant b = x
    generalize m * mant b = y
    have h1 : x / p + y / p ≤ (x + y) / p := by
      rw [Nat.le_div_iff_mul_le hp, Nat.add_mul]
      exact Nat.add_le_add (Nat.div_mul_le_self _ _) (Nat.div_mul_le_self _ _)
    have h2 : (x + y) / p ≤ x / p + y / p + 1 := by
      rw [← Nat.lt_succ_iff, Nat.div_lt_iff_lt_mul hp]
      have a1 := Nat.lt_div_mul_add (a := x) hp
      have a2 := Nat.lt_div_mul_add (a := y) hp
      have e : (x / p + y / p + 1).succ * p = (x / p * p + p) + (y / p * p + p) := by
        rw [Nat.succ_mul, Nat.add_mul, Nat.add_mul, Nat.one_mul]
        omega
      rw [e]
      omega
    generalize (x + y) / p = s at h1 h2 ⊢
    generalize x / p = q at h1 h2 ⊢
    generalize y / p = r at h1 h2 ⊢
    unfold roundX
    omega

theorem scaleS_err {n : Int} {b : Nat} (h : ¬ (scaleS n b).2 = 0) : (scaleS n b).1 = 0 := by
  unfold scaleS at h ⊢
  split
  · rfl
  · rename_i h1
    rw [if_neg h1] at h
    split
    · rfl
    · rename_i h2
      rw [if_neg h2] at h
      exact absurd rfl h
theorem scaleS_ok {n : Int} {b : Nat} (h : (scaleS n b).2 = 0) : 0 ≤ n ∧ n ≤ 9007199254740992 ∧ b ≤ 4607182418800017408 := by
  unfold scaleS at h
  split at h
  · exact absurd h (by decide)
  · split at h
    · exact absurd h (by decide)
    · omega
theorem scaleS_at {n : Int} {b : Nat} (h0 : 0 ≤ n) (h1 : n ≤ 9007199254740992) (h2 : b ≤ 4607182418800017408) : scaleS n b = (((scaleN n.toNat b : Nat) : Int), 0) := by
  unfold scaleS
  rw [if_neg (by omega), if_neg (by omega)]
/-- Of rates the one that is no more, by comparison, has no greater bits. -/
theorem rate_leq {f g : Nat} (hf : f ≤ 4607182418800017408) (hg : g ≤ 4607182418800017408) (h : (Ieee.double.order f g == some .lt || Ieee.double.order f g == some .eq) = true) : f ≤ g := by
  have k : ∀ b : Nat, b ≤ 4607182418800017408 → key b = b ∧ rg b ≤ inf := fun b hb => by
    have hb' : b < 9223372036854775808 := by omega
    refine ⟨by unfold key; rw [ng_small hb', rg_small hb']; rfl, by rw [rg_small hb']; unfold inf; omega⟩
  rw [order_key (k f hf).2 (k g hg).2, (k f hf).1, (k g hg).1] at h
  rcases Nat.lt_trichotomy f g with h0 | h0 | h0
  · omega
  · omega
  · rw [cmp_gt (by omega)] at h
    exact absurd h (by decide)
structure RatesP (n m : Int) (f g : Nat) : Prop where
  pos : ¬ (scaleS n f).1 < 0
  le : ¬ n < (scaleS n f).1
  one : scaleS n 4607182418800017408 = (n, 0)
  none : scaleS n 0 = (0, 0)
  more : (scaleS m f).2 = 0 → n ≤ m → ¬ (scaleS m f).1 < (scaleS n f).1
  rate : (scaleS n g).2 = 0 → (Ieee.double.order f g == some .lt || Ieee.double.order f g == some .eq) = true → ¬ (scaleS n g).1 < (scaleS n f).1
  both : (scaleS m f).2 = 0 → 0 ≤ m ∧ m ≤ 9007199254740992 ∧ 0 ≤ (scaleS m f).1 ∧ (scaleS m f).1 ≤ m ∧ (n ≤ 9007199254740992 - m → (scaleS (n + m) f).2 = 0 ∧ (scaleS n f).1 + (scaleS m f).1 - 1 ≤ (scaleS (n + m) f).1 ∧ (scaleS (n + m) f).1 ≤ (scaleS n f).1 + (scaleS m f).1 + 1)
theorem rates_plain {n m : Int} {f g : Nat} (h : (scaleS n f).2 = 0) : RatesP n m f g := by
  obtain ⟨n0, n1, hf⟩ := scaleS_ok h
  obtain ⟨N, rfl⟩ : ∃ N : Nat, n = N := ⟨n.toNat, by omega⟩
  have ea := scaleS_at n0 n1 hf
  rw [Int.toNat_natCast] at ea
  have hle := scale_le (n := N) hf
  refine ⟨by rw [ea]; dsimp only; omega, by rw [ea]; dsimp only; omega, ?_, ?_, ?_, ?_, ?_⟩
  · rw [scaleS_at n0 n1 (Nat.le_refl _), Int.toNat_natCast, scale_one]
  · rw [scaleS_at n0 n1 (Nat.zero_le _), Int.toNat_natCast, scale_none]
    rfl
  · intro hm hle2
    obtain ⟨m0, m1, _⟩ := scaleS_ok hm
    obtain ⟨M, rfl⟩ : ∃ M : Nat, m = M := ⟨m.toNat, by omega⟩
    rw [ea, scaleS_at m0 m1 hf, Int.toNat_natCast]
    have := scale_mono (b := f) (show N ≤ M by omega)
    dsimp only
    omega
  · intro hi hq
    obtain ⟨_, _, hg⟩ := scaleS_ok hi
    rw [ea, scaleS_at n0 n1 hg, Int.toNat_natCast]
    have := scale_rate (n := N) hg (rate_leq hf hg hq)
    dsimp only
    omega
  · intro hm
    obtain ⟨m0, m1, _⟩ := scaleS_ok hm
    obtain ⟨M, rfl⟩ : ∃ M : Nat, m = M := ⟨m.toNat, by omega⟩
    have eb := scaleS_at m0 m1 hf
    rw [Int.toNat_natCast] at eb
    have hleM := scale_le (n := M) hf
    refine ⟨m0, m1, by rw [eb]; dsimp only; omega, by rw [eb]; dsimp only; omega, fun hs => ?_⟩
    have ed := scaleS_at (n := (N : Int) + M) (b := f) (by omega) (by omega) hf
    rw [show ((N : Int) + (M : Int)).toNat = N + M by omega] at ed
    have := scale_add N M f
    rw [ea, eb, ed]
    dsimp only
    omega
end Go.Proofs.YtdioaclegmalpaaDoor.Hand
