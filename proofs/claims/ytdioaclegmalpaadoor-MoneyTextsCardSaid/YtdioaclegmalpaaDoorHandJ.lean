/- MoneyBack, MoneySums, MoneyBits, walked. -/
import Derived.Test.YtdioaclegmalpaaDoorHandI
namespace Go.Proofs.YtdioaclegmalpaaDoor.Hand
open Go.RowKit Go.Sort Go.Lib Go.Proofs.YtdioaclegmalpaaDoorW.PrintWords Go.Proofs.YtdioaclegmalpaaDoor.XA

/-- Two amounts of one text are one. -/
theorem text_one {t u : Int} (h : textM t = textM u) : t = u := by
  obtain ⟨A, B, c, d⟩ := cut_text t
  obtain ⟨A', B', c', d'⟩ := cut_text u
  rw [h, c'] at c
  simp only [Prod.mk.injEq] at c
  obtain ⟨rfl, rfl, -⟩ := c
  rw [d] at d'
  have no : ∀ m : Nat, ∀ r, padL m = 45 :: r → False := fun m r h => by
    have := pad_dig m 45 (by rw [h]; exact List.mem_cons_self ..)
    exact absurd this.1 (by decide)
  have one : ∀ m k : Nat, padL m = padL k → m = k := fun m k h => by rw [← pad_val m, h, pad_val]
  by_cases h1 : t < 0
  · by_cases h2 : u < 0
    · rw [if_pos h1, if_pos h2] at d'
      have := one _ _ (List.cons.inj d').2
      omega
    · rw [if_pos h1, if_neg h2] at d'
      exact (no _ _ d'.symm).elim
  · by_cases h2 : u < 0
    · rw [if_neg h1, if_pos h2] at d'
      exact (no _ _ d').elim
    · rw [if_neg h1, if_neg h2] at d'
      have := one _ _ d'
      omega
theorem text_len (n : Int) (h0 : -9223372036854775808 ≤ n) (h1 : n ≤ 9223372036854775807) : (textM n).size ≤ 281474976710656 := by
  rw [Lib.size_eq, textM_list]
  have h := dec_20 (n.natAbs / 100) (by omega)
  unfold textL magL
  split <;> simp <;> omega

set_option maxHeartbeats 4000000 in
set_option maxRecDepth 20000 in
theorem back_any (n : Int) (hn : -9223372036854775808 ≤ n ∧ n ≤ 9223372036854775807) (s : ByteArray) (hs : s.size ≤ 281474976710656) (w : World) (L : Laid w) : Calls Tryd.prog 7 #[.int .i64 n, .string s] w fun e w' => e = .returned (.bool true) ∧ Kept w w' := by
  obtain ⟨z, hzw⟩ : ∃ z, z = w := ⟨_, rfl⟩
  have hz : Kept z w := by rw [hzw]; exact Kept.refl _
  suffices H : Calls Tryd.prog 7 #[.int .i64 n, .string s] w fun e w' => e = .returned (.bool true) ∧ Kept z w' by rw [hzw] at H; exact H
  rw [← hzw] at L
  clear hzw
  have A := fun w h => awake_any z L w h
  have T := fun w h => text_any z L n hn.1 hn.2 w h
  have PT := fun w h => parse_any z L (textM n) (text_len n hn.1 hn.2) w h
  have PS := fun w h => parse_any z L s hs w h
  have R := fun w h => right_k z w h n
  have TB := fun b h0 h1 w h => text_any z L b h0 h1 w h
  obtain ⟨st, est⟩ : ∃ st, st = textM n := ⟨_, rfl⟩
  rw [← est] at T PT
  have EST := Lib.hid est
  have hr : rightS n = decide (-9007199254740992 ≤ n ∧ n ≤ 9007199254740992) := rfl
  clear L hs hn est
  go_enter Tryd.func7, Tryd.ntmps7
  go_wp2_with fail
  refine (A _ hz).mono ?_
  rintro e w1 ⟨rfl, hz1⟩
  go_wp2_with fail
  refine (T _ hz1).mono ?_
  rintro e w2 ⟨rfl, hz2⟩
  go_wp2_with fail
  refine (PT _ hz2).mono ?_
  rintro e w3 ⟨a, x, rfl, hp, hz3⟩
  have HP := Lib.hid hp
  clear A T PT hz hz1 hz2 hp
  have R1 := R _ hz3
  clear R
  by_cases hR : -9007199254740992 ≤ n ∧ n ≤ 9007199254740992
  · obtain ⟨rfl, rfl⟩ : n = a ∧ 0 = x := by
      have h := HP.out.alike (Or.inl ⟨rfl, hR.1, hR.2, EST.out.symm⟩)
      exact ⟨h.1.symm, h.2.symm⟩
    rw [hr, decide_eq_true hR] at R1
    clear HP hR hr
    go_wp2_with fail
    refine R1.mono ?_
    rintro e w4 ⟨rfl, hz4⟩
    go_wp2_with fail
    refine (PS _ hz4).mono ?_
    rintro e w5 ⟨b, f, rfl, hq, hz5⟩
    clear R1 PS
    rcases hq with ⟨rfl, b0, b1, hbs⟩ | ⟨rfl, rfl, hq⟩
    · have TB1 := TB b (by omega) (by omega) _ hz5
      rw [hbs] at TB1
      clear TB b0 b1 hbs
      go_wp2_with fail
      refine TB1.mono ?_
      rintro e w6 ⟨rfl, hz6⟩
      go_wp2_with fail
      go_ret
      exact ⟨by simp, hz6⟩
    · clear TB hq
      go_wp2_with fail
      go_ret
      exact ⟨by simp, hz5⟩
  · have hx : x = 1 := by
      rcases HP.out with ⟨_, a0, a1, ha⟩ | ⟨h, _⟩
      · rw [EST.out] at ha
        have := text_one ha
        exact absurd ⟨by omega, by omega⟩ hR
      · exact h
    subst hx
    rw [hr, decide_eq_false hR] at R1
    clear HP hR hr
    go_wp2_with fail
    refine R1.mono ?_
    rintro e w4 ⟨rfl, hz4⟩
    go_wp2_with fail
    refine (PS _ hz4).mono ?_
    rintro e w5 ⟨b, f, rfl, hq, hz5⟩
    clear R1 PS
    rcases hq with ⟨rfl, b0, b1, hbs⟩ | ⟨rfl, rfl, hq⟩
    · have TB1 := TB b (by omega) (by omega) _ hz5
      rw [hbs] at TB1
      clear TB b0 b1 hbs
      go_wp2_with fail
      refine TB1.mono ?_
      rintro e w6 ⟨rfl, hz6⟩
      go_wp2_with fail
      go_ret
      exact ⟨by simp, hz6⟩
    · clear TB hq
      go_wp2_with fail
      go_ret
      exact ⟨by simp, hz5⟩

set_option maxHeartbeats 4000000 in
set_option maxRecDepth 20000 in
theorem sums_any (a b : Int) (A : Option Addr) (c : Nat) (l : List Int) (w : World) (hr : Kd.C (Kd.int .i64) w A l.length l) (hc : l.length ≤ c) (hl : l.length ≤ 281474976710656) (L : Laid w) : Calls Tryd.prog 9 #[.int .i64 a, .int .i64 b, .slice A l.length c] w fun e w' => e = .returned (.bool true) ∧ Kept w w' := by
  obtain ⟨z, hzw⟩ : ∃ z, z = w := ⟨_, rfl⟩
  have hz : Kept z w := by rw [hzw]; exact Kept.refl _
  suffices H : Calls Tryd.prog 9 #[.int .i64 a, .int .i64 b, .slice A l.length c] w fun e w' => e = .returned (.bool true) ∧ Kept z w' by rw [hzw] at H; exact H
  rw [← hzw] at L hr
  clear hzw
  have AW := fun w h => awake_any z L w h
  have K25 := fun w h => add_k z w h a b
  have K26 := fun w h => sub_k z w h a b
  have K27 := fun w h => sum_k z w h A c l (Kd.C_below hr h) hc hl
  have K23 := fun w h => right_k z w h a
  have K28 := fun w h => radd_k z w h a b
  have K29 := fun w h => rsub_k z w h a b
  have K30 := fun w h => rsum_k z w h A c l (Kd.C_below hr h) hc hl
  have K31 := fun w h => rright_k z w h a
  generalize (addS a b).1 = v1 at K25 K28
  generalize (addS a b).2 = v2 at K25 K28
  generalize (subS a b).1 = v3 at K26 K29
  generalize (subS a b).2 = v4 at K26 K29
  generalize (sumFrom 0 l).1 = v5 at K27 K30
  generalize (sumFrom 0 l).2 = v6 at K27 K30
  generalize rightS a = v7 at K23 K31
  clear L hr hc hl
  go_enter Tryd.func9, Tryd.ntmps9
  go_wp2_with fail
  refine (AW _ hz).mono ?_
  rintro e w1 ⟨rfl, hz1⟩
  clear AW hz
  go_wp2_with fail
  refine (K25 _ hz1).mono ?_
  rintro e w2 ⟨rfl, hz2⟩
  clear K25 hz1
  go_wp2_with fail
  refine (K26 _ hz2).mono ?_
  rintro e w3 ⟨rfl, hz3⟩
  clear K26 hz2
  go_wp2_with fail
  refine (K27 _ hz3).mono ?_
  rintro e w4 ⟨rfl, hz4⟩
  clear K27 hz3
  go_wp2_with fail
  refine (K23 _ hz4).mono ?_
  rintro e w5 ⟨rfl, hz5⟩
  clear K23 hz4
  go_wp2_with fail
  refine (K28 _ hz5).mono ?_
  rintro e w6 ⟨rfl, hz6⟩
  clear K28 hz5
  go_wp2_with fail
  refine (K29 _ hz6).mono ?_
  rintro e w7 ⟨rfl, hz7⟩
  clear K29 hz6
  go_wp2_with fail
  refine (K30 _ hz7).mono ?_
  rintro e w8 ⟨rfl, hz8⟩
  clear K30 hz7
  go_wp2_with fail
  refine (K31 _ hz8).mono ?_
  rintro e w9 ⟨rfl, hz9⟩
  clear K31 hz8
  go_wp2_with fail
  go_ret
  exact ⟨by simp, hz9⟩

theorem ffrom (b : Nat) (w : World) : (callFunc 24 #[.int .u64 (b : Int)]).run Tryd.prog w = .ok (.value (.float .f64 b)) w := by
  rw [run_callFunc_extern (e := Extern.MathFloatBits.float64frombits) Tryd.func24 (by kernel_rfl) (by kernel_rfl) (by kernel_rfl) rfl]
  rfl
set_option maxHeartbeats 4000000 in
set_option maxRecDepth 20000 in
theorem bits_any (u : Int) (hu : -9223372036854775808 ≤ u ∧ u ≤ 9223372036854775807) (w : World) (L : Laid w) : Calls Tryd.prog 8 #[.int .i64 u] w fun e w' => e = .returned (.bool true) ∧ Kept w w' := by
  have AW := awake_any w L w (Kept.refl w)
  obtain ⟨b, hb⟩ : ∃ b : Nat, b = (u % 18446744073709551616).toNat := ⟨_, rfl⟩
  have R := fun w => rate_any b w (by omega)
  have hf := fun w => ffrom b w
  have p1 : IntKind.u64.wrap u = (b : Int) := by rw [IntKind.wrap_u64]; omega
  have hrb : rateS b = (decide (0 ≤ u) && decide (u ≤ 4607182418800017408)) := by
    unfold rateS
    by_cases h0 : 0 ≤ u
    · rw [decide_eq_true h0, Bool.true_and]
      by_cases h1 : u ≤ 4607182418800017408
      · rw [decide_eq_true h1, decide_eq_true (by omega)]
      · rw [decide_eq_false h1, decide_eq_false (by omega)]
    · rw [decide_eq_false h0, Bool.false_and, decide_eq_false (by omega)]
  rw [hrb] at R
  clear L hu hb hrb
  generalize (b : Int) = bI at p1 hf
  by_cases h0 : 0 ≤ u
  · rw [decide_eq_true h0, Bool.true_and] at R
    by_cases h1 : u ≤ 4607182418800017408
    · rw [decide_eq_true h1] at R
      go_enter Tryd.func8, Tryd.ntmps8
      go_wp2_with fail
      refine AW.mono ?_
      rintro e w1 ⟨rfl, hz1⟩
      clear AW
      go_wp2_with fail
      refine (R _).mono ?_
      rintro e w2 ⟨rfl, rfl⟩
      go_wp2_with fail
      go_ret
      exact ⟨by simp, hz1⟩
    · rw [decide_eq_false h1] at R
      go_enter Tryd.func8, Tryd.ntmps8
      go_wp2_with fail
      refine AW.mono ?_
      rintro e w1 ⟨rfl, hz1⟩
      clear AW
      go_wp2_with fail
      refine (R _).mono ?_
      rintro e w2 ⟨rfl, rfl⟩
      go_wp2_with fail
      go_ret
      exact ⟨by simp; omega, hz1⟩
  · rw [decide_eq_false h0, Bool.false_and] at R
    go_enter Tryd.func8, Tryd.ntmps8
    go_wp2_with fail
    refine AW.mono ?_
    rintro e w1 ⟨rfl, hz1⟩
    clear AW
    go_wp2_with fail
    refine (R _).mono ?_
    rintro e w2 ⟨rfl, rfl⟩
    go_wp2_with fail
    go_ret
    exact ⟨by simp, hz1⟩
end Go.Proofs.YtdioaclegmalpaaDoor.Hand
