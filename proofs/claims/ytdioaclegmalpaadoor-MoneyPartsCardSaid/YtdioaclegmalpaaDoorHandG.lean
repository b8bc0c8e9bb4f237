/- Scale: what it comes to, at every amount and every double. -/
import Derived.Test.YtdioaclegmalpaaDoorHandE
import Derived.Test.YtdioaclegmalpaaDoorPureS
namespace Go.Proofs.YtdioaclegmalpaaDoor.Hand
open Go.RowKit Go.Sort Go.Lib Go.Proofs.YtdioaclegmalpaaDoorW.PrintWords Go.Proofs.YtdioaclegmalpaaDoor.XA

def scaleS (n : Int) (b : Nat) : Int × Int := if n < 0 ∨ 9007199254740992 < n then (0, 50) else if 4607182418800017408 < b then (0, 51) else (((scaleN n.toNat b : Nat) : Int), 0)

set_option maxHeartbeats 4000000 in
set_option maxRecDepth 20000 in
theorem scale_least (n : Nat) (b : Nat) (hn : n ≤ 9007199254740992) (hb : b < 4503599627370496) (w : World) : Calls Tryd.prog 14 #[.int .i64 n, .float .f64 b] w fun e w' => e = .returned (.tuple #[.int .i64 0, .int .i64 0]) ∧ Kept w w' := by
  have R := fun w => rate_any b w (by omega)
  have Q := fun w => money_Right.calls n _ w (right_f n)
  have M := fun w => Tryd.bits_Mul64 n b (by omega) (by omega) w
  have hr : rateS b = true := decide_eq_true (by omega)
  have hq : rightS n = true := decide_eq_true (by omega)
  rw [hr] at R
  rw [hq] at Q
  have hf := fun w => fbits b w
  have hn0 : ¬ (n : Int) < 0 := by omega
  have hn1 : IntKind.u64.wrap (n : Int) = n := by rw [IntKind.wrap_u64]; omega
  have q0 : bits .and .u64 (b : Int) 4503599627370495 = b := by rw [mask_law b (by omega), Nat.mod_eq_of_lt hb]
  have q2 : (b : Int) / 4503599627370496 = 0 := by omega
  clear hr hq hn hb
  generalize ((n * b / 18446744073709551616 : Nat) : Int) = H at M
  generalize ((n * b % 18446744073709551616 : Nat) : Int) = Lo at M
  generalize (n : Int) = nI at M Q hn0 hn1 ⊢
  generalize (b : Int) = bI at M hf q0 q2
  go_enter Tryd.func14, Tryd.ntmps14
  go_wp2_with fail
  refine (Q _).mono ?_
  rintro e w1 ⟨rfl, hd⟩
  go_wp2_with fail
  refine (R _).mono ?_
  rintro e w2 ⟨rfl, rfl⟩
  clear R Q
  go_wp2_with fail
  refine (M _).mono ?_
  rintro e w3 ⟨rfl, rfl⟩
  clear M q0 q2
  have hz : Kept w w3 := (Kept.refl w).drawn hd
  clear hd
  go_wp2_with fail
  go_ret2
  exact ⟨rfl, hz⟩

set_option maxHeartbeats 4000000 in
set_option maxRecDepth 20000 in
theorem scale_no (n : Int) (b : Nat) (h : n < 0 ∨ 9007199254740992 < n) (w : World) : Calls Tryd.prog 14 #[.int .i64 n, .float .f64 b] w fun e w' => e = .returned (.tuple #[.int .i64 0, .int .i64 50]) ∧ Kept w w' := by
  have Q := fun w => money_Right.calls n _ w (right_f n)
  by_cases h0 : n < 0
  · clear h Q
    go_enter Tryd.func14, Tryd.ntmps14
    go_wp2_with fail
    go_ret2
    exact ⟨rfl, Kept.refl _⟩
  · have hq : rightS n = false := decide_eq_false (by omega)
    rw [hq] at Q
    clear h hq
    go_enter Tryd.func14, Tryd.ntmps14
    go_wp2_with fail
    refine (Q _).mono ?_
    rintro e w1 ⟨rfl, hd⟩
    have hz : Kept w w1 := (Kept.refl w).drawn hd
    clear hd
    go_wp2_with fail
    go_ret2
    exact ⟨rfl, hz⟩
set_option maxHeartbeats 4000000 in
set_option maxRecDepth 20000 in
theorem scale_norate (n : Int) (b : Nat) (h0 : ¬ n < 0) (h1 : n ≤ 9007199254740992) (hb : b < 18446744073709551616) (hr : 4607182418800017408 < b) (w : World) : Calls Tryd.prog 14 #[.int .i64 n, .float .f64 b] w fun e w' => e = .returned (.tuple #[.int .i64 0, .int .i64 51]) ∧ Kept w w' := by
  have Q := fun w => money_Right.calls n _ w (right_f n)
  have R := fun w => rate_any b w hb
  have hq : rightS n = true := decide_eq_true (by omega)
  have hr' : rateS b = false := decide_eq_false (by omega)
  rw [hr'] at R
  rw [hq] at Q
  clear hr hq hr' hb h1
  go_enter Tryd.func14, Tryd.ntmps14
  go_wp2_with fail
  refine (Q _).mono ?_
  rintro e w1 ⟨rfl, hd⟩
  have hz : Kept w w1 := (Kept.refl w).drawn hd
  clear hd
  go_wp2_with fail
  refine (R _).mono ?_
  rintro e w2 ⟨rfl, rfl⟩
  go_wp2_with fail
  go_ret2
  exact ⟨rfl, hz⟩

theorem scale_any (n : Int) (b : Nat) (hb : b < 18446744073709551616) (w : World) : Calls Tryd.prog 14 #[.int .i64 n, .float .f64 b] w fun e w' => e = .returned (.tuple #[.int .i64 (scaleS n b).1, .int .i64 (scaleS n b).2]) ∧ Kept w w' := by
  by_cases h0 : n < 0 ∨ 9007199254740992 < n
  · have e : scaleS n b = (0, 50) := if_pos h0
    rw [e]
    exact scale_no n b h0 w
  · by_cases h1 : 4607182418800017408 < b
    · have e : scaleS n b = (0, 51) := by unfold scaleS; rw [if_neg h0, if_pos h1]
      rw [e]
      exact scale_norate n b (by omega) (by omega) hb h1 w
    · have e : scaleS n b = (((scaleN n.toNat b : Nat) : Int), 0) := by unfold scaleS; rw [if_neg h0, if_neg h1]
      rw [e]
      obtain ⟨m, rfl⟩ : ∃ m : Nat, n = m := ⟨n.toNat, by omega⟩
      rw [Int.toNat_natCast]
      have hm : m ≤ 9007199254740992 := by omega
      by_cases h2 : b < 4503599627370496
      · rw [scale_far m b hm (by unfold byN; rw [if_pos h2]; decide)]
        exact scale_least m b hm h2 w
      · obtain ⟨y, hy⟩ : ∃ y, y = byN b := ⟨_, rfl⟩
        have hy' : y = 1075 - b / 4503599627370496 := by rw [hy, byN, if_neg h2]
        have hmant : mant b = 4503599627370496 + b % 4503599627370496 := if_neg h2
        have hP := prod_le m b hm
        have hml := mant_lt b
        have hsc : scaleN m b = roundX (m * mant b / 2 ^ (y - 1)) := by rw [hy]; rfl
        have hfar := scale_far m b hm
        rw [← hy] at hfar
        refine scale_walk m b hm (by omega) ((b % 4503599627370496 : Nat) : Int) ((mant b : Nat) : Int) ((b / 4503599627370496 : Nat) : Int) (y : Int) ((m * mant b / 18446744073709551616 : Nat) : Int) ((m * mant b % 18446744073709551616 : Nat) : Int) _ (mask_law b hb) ?_ ?_ ?_ ?_ ?_ (fun w => Tryd.bits_Mul64 m (mant b) (by omega) (by omega) w) ?_ ?_ ?_ ?_ w
        · rw [lead_law _ (by omega), hmant]
        · omega
        · omega
        · rw [IntKind.wrap_i64]; omega
        · omega
        · intro h
          rw [hfar (by omega)]
          rfl
        · intro h h'
          rw [hsc]
          exact (res2 _ y hP (by omega) (by omega)).symm
        · intro h
          rw [hsc]
          have := res4 (m * mant b) y hP (by omega) (by omega) 63 1 (by omega) (by omega)
          rw [← this]
          rfl
        · intro s1 s2 h e1 e2
          rw [hsc]
          have := res4 (m * mant b) y hP (by omega) (by omega) (min s1.toNat 64) (min s2.toNat 64) (by omega) (by omega)
          exact this.symm
end Go.Proofs.YtdioaclegmalpaaDoor.Hand
