/- MoneyOrder, walked. -/
import Derived.Test.YtdioaclegmalpaaDoorHandV
import Derived.Test.YtdioaclegmalpaaDoorHandI
namespace Go.Proofs.YtdioaclegmalpaaDoor.Hand
open Go.RowKit Go.Sort Go.Lib Go.Proofs.YtdioaclegmalpaaDoorW.PrintWords Go.Proofs.YtdioaclegmalpaaDoor.XA

theorem K_zero : K 0 = 0 := by decide
theorem K_one : K 4607182418800017408 = 4607182418800017408 := by decide
theorem sg_range (x y : Int) : sg x y = -1 ∨ sg x y = 0 ∨ sg x y = 1 := by
  rcases Int.lt_trichotomy x y with h | h | h
  · exact .inl (sg_lt h)
  · exact .inr (.inl (sg_eq h))
  · exact .inr (.inr (sg_gt h))
theorem sg_neg (x y : Int) : sg y x = - sg x y := by
  rcases Int.lt_trichotomy x y with h | h | h
  · rw [sg_lt h, sg_gt h]; rfl
  · rw [sg_eq h, sg_eq h.symm]; rfl
  · rw [sg_gt h, sg_lt h]
theorem sg_nonneg (x y : Int) : (0 ≤ sg x y) = (y ≤ x) := by
  apply propext
  rcases Int.lt_trichotomy x y with h | h | h
  · rw [sg_lt h]; omega
  · rw [sg_eq h]; omega
  · rw [sg_gt h]; omega
theorem sg_nonpos (x y : Int) : (sg x y ≤ 0) = (x ≤ y) := by
  apply propext
  rcases Int.lt_trichotomy x y with h | h | h
  · rw [sg_lt h]; omega
  · rw [sg_eq h]; omega
  · rw [sg_gt h]; omega
theorem sg_trans (x y z : Int) : (sg x y = -1 ∧ ¬ sg y z = 1 ∧ sg x z = -1) ∨ (sg x y = 0 ∧ sg x z = sg y z) ∨ (sg x y = 1) ∨ (sg x y = -1 ∧ sg y z = 1) := by
  rcases Int.lt_trichotomy x y with h | h | h
  · rcases Int.lt_trichotomy y z with g | g | g
    · exact .inl ⟨sg_lt h, by rw [sg_lt g]; decide, sg_lt (by omega)⟩
    · exact .inl ⟨sg_lt h, by rw [sg_eq g]; decide, sg_lt (by omega)⟩
    · exact .inr (.inr (.inr ⟨sg_lt h, sg_gt g⟩))
  · exact .inr (.inl ⟨sg_eq h, by rw [h]⟩)
  · exact .inr (.inr (.inl (sg_gt h)))
/-- The rates are those from 0 to 1. -/
theorem K_rate {a : Nat} (ha : a < 18446744073709551616) : rateS a = (decide (0 ≤ sg (K a) (K 0)) && decide (sg (K a) (K 4607182418800017408) ≤ 0)) := by
  rw [K_zero, K_one]
  have hk : rateS a = (decide (0 ≤ K a) && decide (K a ≤ 4607182418800017408)) := by
    unfold rateS
    by_cases hb : a < 9223372036854775808
    · have e1 := rg_small hb
      have e2 := ng_small hb
      by_cases hn : inf < rg a
      · rw [K_nan hn]
        have h3 : ¬ a ≤ 4607182418800017408 := by rw [e1] at hn; unfold inf at hn; omega
        rw [decide_eq_false h3]
        rfl
      · rw [K_num hn, e1, e2, if_neg (by decide), decide_eq_true (Int.natCast_nonneg a), Bool.true_and]
        by_cases h3 : a ≤ 4607182418800017408
        · rw [decide_eq_true h3, decide_eq_true (by omega)]
        · rw [decide_eq_false h3, decide_eq_false (by omega)]
    · have e3 : ng a = true := by rw [← pM_ng ha]; exact decide_eq_true (by omega)
      rw [decide_eq_false (show ¬ a ≤ 4607182418800017408 by omega)]
      by_cases hn : inf < rg a
      · rw [K_nan hn]
        rfl
      · rw [K_num hn, e3, if_pos rfl, decide_eq_false (show ¬ 0 ≤ -(rg a : Int) - 1 by omega), Bool.false_and]
  rw [hk]
  simp only [sg_nonneg, sg_nonpos]
set_option maxHeartbeats 8000000 in
set_option maxRecDepth 20000 in
theorem morder_any (a : Nat) (ha : a < 18446744073709551616) (b : Nat) (hb : b < 18446744073709551616) (c : Nat) (hc : c < 18446744073709551616) (w : World) (L : Laid w) : Calls Tryd.prog 11 #[.float .f64 a, .float .f64 b, .float .f64 c] w fun e w' => e = .returned (.bool true) ∧ Kept w w' := by
  have AW := awake_any w L w (Kept.refl w)
  have X := fun w => order_any a b ha hb w
  have Y := fun w => order_any b c hb hc w
  have Z := fun w => order_any a c ha hc w
  have W := fun w => order_any b a hb ha w
  have RX := fun w => rorder_any a b ha hb w
  have LO := fun w => order_any a 0 ha (by decide) w
  have HI := fun w => order_any a 4607182418800017408 ha (by decide) w
  have R := fun w => rate_any a w ha
  have hr := K_rate ha
  have hw := sg_neg (K a) (K b)
  have t := sg_trans (K a) (K b) (K c)
  have r1 := sg_range (K a) (K b)
  have r2 := sg_range (K b) (K c)
  have r3 := sg_range (K a) (K c)
  have r4 := sg_range (K a) (K 0)
  have r5 := sg_range (K a) (K 4607182418800017408)
  rw [hw] at W
  rw [hr] at R
  generalize sg (K a) (K b) = x at X W RX t r1
  generalize sg (K b) (K c) = y at Y t r2
  generalize sg (K a) (K c) = z at Z t r3
  generalize sg (K a) (K 0) = lo at LO R r4
  generalize sg (K a) (K 4607182418800017408) = hi at HI R r5
  clear hr hw ha hb hc L
  have cases3 : (x = -1 ∧ y = -1 ∧ z = -1) ∨ (x = -1 ∧ y = 0 ∧ z = -1) ∨ (x = -1 ∧ y = 1) ∨ (x = 0 ∧ y = -1 ∧ z = -1) ∨ (x = 0 ∧ y = 0 ∧ z = 0) ∨ (x = 0 ∧ y = 1) ∨ (x = 1) := by
    rcases t with ⟨h1, h2, h3⟩ | ⟨h1, h2⟩ | h1 | ⟨h1, h2⟩
    · rcases r2 with g | g | g
      · exact .inl ⟨h1, g, h3⟩
      · exact .inr (.inl ⟨h1, g, h3⟩)
      · exact absurd g h2
    · rcases r2 with g | g | g
      · exact .inr (.inr (.inr (.inl ⟨h1, g, h2.trans g⟩)))
      · exact .inr (.inr (.inr (.inr (.inl ⟨h1, g, h2.trans g⟩))))
      · exact .inr (.inr (.inr (.inr (.inr (.inl ⟨h1, g⟩)))))
    · exact .inr (.inr (.inr (.inr (.inr (.inr h1)))))
    · exact .inr (.inr (.inl ⟨h1, h2⟩))
  clear t r1 r2 r3
  have q0 : IntKind.i64.wrap (-(-1)) = 1 := by rw [IntKind.wrap_i64]; omega
  have q1 : IntKind.i64.wrap (-1) = -1 := by rw [IntKind.wrap_i64]; omega
  have q2 : IntKind.i64.wrap (-0) = 0 := by rw [IntKind.wrap_i64]; omega
  obtain ⟨rr, hrr⟩ : ∃ rr, rr = (decide (0 ≤ lo) && decide (hi ≤ 0)) := ⟨_, rfl⟩
  rw [← hrr] at R
  have HRR := Lib.hid hrr
  have R4 := Lib.hid r4
  have R5 := Lib.hid r5
  clear hrr r4 r5
  rcases cases3 with ⟨rfl, rfl, rfl⟩ | ⟨rfl, rfl, rfl⟩ | ⟨rfl, rfl⟩ | ⟨rfl, rfl, rfl⟩ | ⟨rfl, rfl, rfl⟩ | ⟨rfl, rfl⟩ | rfl
  · go_enter Tryd.func11, Tryd.ntmps11
    go_wp2_with fail
    refine AW.mono ?_
    rintro e w1 ⟨rfl, hz⟩
    go_wp2_with fail
    refine (X _).mono ?_
    rintro e w2 ⟨rfl, rfl⟩
    go_wp2_with fail
    refine (Y _).mono ?_
    rintro e w2 ⟨rfl, rfl⟩
    go_wp2_with fail
    refine (Z _).mono ?_
    rintro e w2 ⟨rfl, rfl⟩
    go_wp2_with fail
    refine (W _).mono ?_
    rintro e w2 ⟨rfl, rfl⟩
    go_wp2_with fail
    refine (RX _).mono ?_
    rintro e w2 ⟨rfl, rfl⟩
    clear AW X Y Z W RX
    go_wp2_with fail
    refine (R _).mono ?_
    rintro e w2 ⟨rfl, rfl⟩
    go_wp2_with fail
    refine (LO _).mono ?_
    rintro e w2 ⟨rfl, rfl⟩
    go_wp2_with fail
    refine (HI _).mono ?_
    rintro e w2 ⟨rfl, rfl⟩
    clear R LO HI
    by_cases hl : 0 ≤ lo
    · by_cases hh : hi ≤ 0
      · have hv := HRR.out
        rw [decide_eq_true hl, decide_eq_true hh] at hv
        subst hv
        go_wp2_with fail
        go_ret
        exact ⟨by simp, hz⟩
      · have hv := HRR.out
        rw [decide_eq_true hl, decide_eq_false hh] at hv
        subst hv
        go_wp2_with fail
        go_ret
        exact ⟨by simp; omega, hz⟩
    · have hv := HRR.out
      rw [decide_eq_false hl] at hv
      subst hv
      go_wp2_with fail
      go_ret
      exact ⟨by simp, hz⟩
  · go_enter Tryd.func11, Tryd.ntmps11
    go_wp2_with fail
    refine AW.mono ?_
    rintro e w1 ⟨rfl, hz⟩
    go_wp2_with fail
    refine (X _).mono ?_
    rintro e w2 ⟨rfl, rfl⟩
    go_wp2_with fail
    refine (Y _).mono ?_
    rintro e w2 ⟨rfl, rfl⟩
    go_wp2_with fail
    refine (Z _).mono ?_
    rintro e w2 ⟨rfl, rfl⟩
    go_wp2_with fail
    refine (W _).mono ?_
    rintro e w2 ⟨rfl, rfl⟩
    go_wp2_with fail
    refine (RX _).mono ?_
    rintro e w2 ⟨rfl, rfl⟩
    clear AW X Y Z W RX
    go_wp2_with fail
    refine (R _).mono ?_
    rintro e w2 ⟨rfl, rfl⟩
    go_wp2_with fail
    refine (LO _).mono ?_
    rintro e w2 ⟨rfl, rfl⟩
    go_wp2_with fail
    refine (HI _).mono ?_
    rintro e w2 ⟨rfl, rfl⟩
    clear R LO HI
    by_cases hl : 0 ≤ lo
    · by_cases hh : hi ≤ 0
      · have hv := HRR.out
        rw [decide_eq_true hl, decide_eq_true hh] at hv
        subst hv
        go_wp2_with fail
        go_ret
        exact ⟨by simp, hz⟩
      · have hv := HRR.out
        rw [decide_eq_true hl, decide_eq_false hh] at hv
        subst hv
        go_wp2_with fail
        go_ret
        exact ⟨by simp; omega, hz⟩
    · have hv := HRR.out
      rw [decide_eq_false hl] at hv
      subst hv
      go_wp2_with fail
      go_ret
      exact ⟨by simp, hz⟩
  · go_enter Tryd.func11, Tryd.ntmps11
    go_wp2_with fail
    refine AW.mono ?_
    rintro e w1 ⟨rfl, hz⟩
    go_wp2_with fail
    refine (X _).mono ?_
    rintro e w2 ⟨rfl, rfl⟩
    go_wp2_with fail
    refine (Y _).mono ?_
    rintro e w2 ⟨rfl, rfl⟩
    go_wp2_with fail
    refine (Z _).mono ?_
    rintro e w2 ⟨rfl, rfl⟩
    go_wp2_with fail
    refine (W _).mono ?_
    rintro e w2 ⟨rfl, rfl⟩
    go_wp2_with fail
    refine (RX _).mono ?_
    rintro e w2 ⟨rfl, rfl⟩
    clear AW X Y Z W RX
    go_wp2_with fail
    refine (R _).mono ?_
    rintro e w2 ⟨rfl, rfl⟩
    go_wp2_with fail
    refine (LO _).mono ?_
    rintro e w2 ⟨rfl, rfl⟩
    go_wp2_with fail
    refine (HI _).mono ?_
    rintro e w2 ⟨rfl, rfl⟩
    clear R LO HI
    by_cases hl : 0 ≤ lo
    · by_cases hh : hi ≤ 0
      · have hv := HRR.out
        rw [decide_eq_true hl, decide_eq_true hh] at hv
        subst hv
        go_wp2_with fail
        go_ret
        exact ⟨by simp, hz⟩
      · have hv := HRR.out
        rw [decide_eq_true hl, decide_eq_false hh] at hv
        subst hv
        go_wp2_with fail
        go_ret
        exact ⟨by simp; omega, hz⟩
    · have hv := HRR.out
      rw [decide_eq_false hl] at hv
      subst hv
      go_wp2_with fail
      go_ret
      exact ⟨by simp, hz⟩
  · go_enter Tryd.func11, Tryd.ntmps11
    go_wp2_with fail
    refine AW.mono ?_
    rintro e w1 ⟨rfl, hz⟩
    go_wp2_with fail
    refine (X _).mono ?_
    rintro e w2 ⟨rfl, rfl⟩
    go_wp2_with fail
    refine (Y _).mono ?_
    rintro e w2 ⟨rfl, rfl⟩
    go_wp2_with fail
    refine (Z _).mono ?_
    rintro e w2 ⟨rfl, rfl⟩
    go_wp2_with fail
    refine (W _).mono ?_
    rintro e w2 ⟨rfl, rfl⟩
    go_wp2_with fail
    refine (RX _).mono ?_
    rintro e w2 ⟨rfl, rfl⟩
    clear AW X Y Z W RX
    go_wp2_with fail
    refine (R _).mono ?_
    rintro e w2 ⟨rfl, rfl⟩
    go_wp2_with fail
    refine (LO _).mono ?_
    rintro e w2 ⟨rfl, rfl⟩
    go_wp2_with fail
    refine (HI _).mono ?_
    rintro e w2 ⟨rfl, rfl⟩
    clear R LO HI
    by_cases hl : 0 ≤ lo
    · by_cases hh : hi ≤ 0
      · have hv := HRR.out
        rw [decide_eq_true hl, decide_eq_true hh] at hv
        subst hv
        go_wp2_with fail
        go_ret
        exact ⟨by simp, hz⟩
      · have hv := HRR.out
        rw [decide_eq_true hl, decide_eq_false hh] at hv
        subst hv
        go_wp2_with fail
        go_ret
        exact ⟨by simp; omega, hz⟩
    · have hv := HRR.out
      rw [decide_eq_false hl] at hv
      subst hv
      go_wp2_with fail
      go_ret
      exact ⟨by simp, hz⟩
  · go_enter Tryd.func11, Tryd.ntmps11
    go_wp2_with fail
    refine AW.mono ?_
    rintro e w1 ⟨rfl, hz⟩
    go_wp2_with fail
    refine (X _).mono ?_
    rintro e w2 ⟨rfl, rfl⟩
    go_wp2_with fail
    refine (Y _).mono ?_
    rintro e w2 ⟨rfl, rfl⟩
    go_wp2_with fail
    refine (Z _).mono ?_
    rintro e w2 ⟨rfl, rfl⟩
    go_wp2_with fail
    refine (W _).mono ?_
    rintro e w2 ⟨rfl, rfl⟩
    go_wp2_with fail
    refine (RX _).mono ?_
    rintro e w2 ⟨rfl, rfl⟩
    clear AW X Y Z W RX
    go_wp2_with fail
    refine (R _).mono ?_
    rintro e w2 ⟨rfl, rfl⟩
    go_wp2_with fail
    refine (LO _).mono ?_
    rintro e w2 ⟨rfl, rfl⟩
    go_wp2_with fail
    refine (HI _).mono ?_
    rintro e w2 ⟨rfl, rfl⟩
    clear R LO HI
    by_cases hl : 0 ≤ lo
    · by_cases hh : hi ≤ 0
      · have hv := HRR.out
        rw [decide_eq_true hl, decide_eq_true hh] at hv
        subst hv
        go_wp2_with fail
        go_ret
        exact ⟨by simp, hz⟩
      · have hv := HRR.out
        rw [decide_eq_true hl, decide_eq_false hh] at hv
        subst hv
        go_wp2_with fail
        go_ret
        exact ⟨by simp; omega, hz⟩
    · have hv := HRR.out
      rw [decide_eq_false hl] at hv
      subst hv
      go_wp2_with fail
      go_ret
      exact ⟨by simp, hz⟩
  · go_enter Tryd.func11, Tryd.ntmps11
    go_wp2_with fail
    refine AW.mono ?_
    rintro e w1 ⟨rfl, hz⟩
    go_wp2_with fail
    refine (X _).mono ?_
    rintro e w2 ⟨rfl, rfl⟩
    go_wp2_with fail
    refine (Y _).mono ?_
    rintro e w2 ⟨rfl, rfl⟩
    go_wp2_with fail
    refine (Z _).mono ?_
    rintro e w2 ⟨rfl, rfl⟩
    go_wp2_with fail
    refine (W _).mono ?_
    rintro e w2 ⟨rfl, rfl⟩
    go_wp2_with fail
    refine (RX _).mono ?_
    rintro e w2 ⟨rfl, rfl⟩
    clear AW X Y Z W RX
    go_wp2_with fail
    refine (R _).mono ?_
    rintro e w2 ⟨rfl, rfl⟩
    go_wp2_with fail
    refine (LO _).mono ?_
    rintro e w2 ⟨rfl, rfl⟩
    go_wp2_with fail
    refine (HI _).mono ?_
    rintro e w2 ⟨rfl, rfl⟩
    clear R LO HI
    by_cases hl : 0 ≤ lo
    · by_cases hh : hi ≤ 0
      · have hv := HRR.out
        rw [decide_eq_true hl, decide_eq_true hh] at hv
        subst hv
        go_wp2_with fail
        go_ret
        exact ⟨by simp, hz⟩
      · have hv := HRR.out
        rw [decide_eq_true hl, decide_eq_false hh] at hv
        subst hv
        go_wp2_with fail
        go_ret
        exact ⟨by simp; omega, hz⟩
    · have hv := HRR.out
      rw [decide_eq_false hl] at hv
      subst hv
      go_wp2_with fail
      go_ret
      exact ⟨by simp, hz⟩
  · go_enter Tryd.func11, Tryd.ntmps11
    go_wp2_with fail
    refine AW.mono ?_
    rintro e w1 ⟨rfl, hz⟩
    go_wp2_with fail
    refine (X _).mono ?_
    rintro e w2 ⟨rfl, rfl⟩
    go_wp2_with fail
    refine (Y _).mono ?_
    rintro e w2 ⟨rfl, rfl⟩
    go_wp2_with fail
    refine (Z _).mono ?_
    rintro e w2 ⟨rfl, rfl⟩
    go_wp2_with fail
    refine (W _).mono ?_
    rintro e w2 ⟨rfl, rfl⟩
    go_wp2_with fail
    refine (RX _).mono ?_
    rintro e w2 ⟨rfl, rfl⟩
    clear AW X Y Z W RX
    go_wp2_with fail
    refine (R _).mono ?_
    rintro e w2 ⟨rfl, rfl⟩
    go_wp2_with fail
    refine (LO _).mono ?_
    rintro e w2 ⟨rfl, rfl⟩
    go_wp2_with fail
    refine (HI _).mono ?_
    rintro e w2 ⟨rfl, rfl⟩
    clear R LO HI
    by_cases hl : 0 ≤ lo
    · by_cases hh : hi ≤ 0
      · have hv := HRR.out
        rw [decide_eq_true hl, decide_eq_true hh] at hv
        subst hv
        go_wp2_with fail
        go_ret
        exact ⟨by simp, hz⟩
      · have hv := HRR.out
        rw [decide_eq_true hl, decide_eq_false hh] at hv
        subst hv
        go_wp2_with fail
        go_ret
        exact ⟨by simp; omega, hz⟩
    · have hv := HRR.out
      rw [decide_eq_false hl] at hv
      subst hv
      go_wp2_with fail
      go_ret
      exact ⟨by simp, hz⟩
end Go.Proofs.YtdioaclegmalpaaDoor.Hand
