/- ClockWeeks, walked. -/
import Derived.Test.YtgcdldbfikodaaaDoorHandF
namespace Go.Proofs.YtgcdldbfikodaaaDoor.Hand
open Go.RowKit Go.Sort Go.Lib Go.Proofs.YtgcdldbfikodaaaDoorW.PrintWords Go.Proofs.YtgcdldbfikodaaaDoor.XA

theorem weeks_plain (d : Int) (h1 : -1099511627000 ≤ d) (h2 : d ≤ 1099511627000) : (boundsS d).2 = (boundsS (d + 1)).1 ∧ weekdayS (d - weekdayS d) = 0 ∧ weekS (d - weekdayS d) = weekS d ∧ weekS (d - weekdayS d + 6) = weekS d ∧ weekS (d - weekdayS d + 7) = weekS d + 1 ∧ weekS (d - weekdayS d - 1) = weekS d - 1 ∧ 0 ≤ weekdayS d ∧ weekdayS d ≤ 6 ∧ -1099511627776 ≤ weekS d ∧ weekS d ≤ 1099511627776 := by
  have e0 : weekdayS d = d % 7 := by unfold weekdayS; rw [if_pos (by omega)]
  rw [e0]
  have hk : 0 ≤ d % 7 ∧ d % 7 ≤ 6 := by omega
  unfold boundsS weekS weekdayS
  rw [if_pos (by omega), if_pos (by omega), if_pos (by omega), if_pos (by omega), if_pos (by omega), if_pos (by omega), if_pos (by omega), if_pos (by omega)]
  refine ⟨?_, ?_, ?_, ?_, ?_, ?_, ?_, ?_, ?_, ?_⟩ <;> (try dsimp only) <;> omega

set_option maxHeartbeats 4000000 in
set_option maxRecDepth 20000 in
theorem weeks_any (d : Int) (w : World) (L : Laid w) : Calls Tryd.prog 7 #[.int .i64 d] w fun e w' => e = .returned (.bool true) ∧ Kept w w' := by
  obtain ⟨z, hzw⟩ : ∃ z, z = w := ⟨_, rfl⟩
  have hz : Kept z w := by rw [hzw]; exact Kept.refl _
  suffices H : Calls Tryd.prog 7 #[.int .i64 d] w fun e w' => e = .returned (.bool true) ∧ Kept z w' by rw [hzw] at H; exact H
  rw [← hzw] at L
  clear hzw
  have A := fun w h => awake_any z L w h
  clear L
  by_cases h1 : d < -1099511627000
  · go_enter Tryd.func7, Tryd.ntmps7
    go_wp2_with fail
    refine (A _ hz).mono ?_
    rintro e w1 ⟨rfl, hz1⟩
    go_wp2_with fail
    go_ret
    exact ⟨rfl, hz1⟩
  by_cases h2 : d > 1099511627000
  · go_enter Tryd.func7, Tryd.ntmps7
    go_wp2_with fail
    refine (A _ hz).mono ?_
    rintro e w1 ⟨rfl, hz1⟩
    go_wp2_with fail
    go_ret
    exact ⟨rfl, hz1⟩
  obtain ⟨q1, q2, q3, q4, q5, q6, q7, q8, q9, qA⟩ := weeks_plain d (by omega) (by omega)
  have B1 := fun w h => bounds_k z w h d
  have B2 := fun w h => bounds_k z w h (d + 1)
  have Kd := fun w h => weekday_k z w h d
  have KF := fun w h => weekday_k z w h (d - weekdayS d)
  have W0 := fun w h => week_k z w h d
  have W1 := fun w h => week_k z w h (d - weekdayS d)
  have W2 := fun w h => week_k z w h (d - weekdayS d + 6)
  have W3 := fun w h => week_k z w h (d - weekdayS d + 7)
  have W4 := fun w h => week_k z w h (d - weekdayS d - 1)
  rw [← q1] at B2
  rw [q2] at KF
  rw [q3] at W1
  rw [q4] at W2
  rw [q5] at W3
  rw [q6] at W4
  clear q1 q2 q3 q4 q5 q6
  generalize weekS d = x at W0 W1 W2 W3 W4 q9 qA
  generalize weekdayS d = k at Kd KF W1 W2 W3 W4 q7 q8
  generalize (boundsS d).1 = b1 at B1
  generalize (boundsS d).2 = b2 at B1 B2
  generalize (boundsS (d + 1)).2 = b3 at B2
  obtain ⟨d1, e1⟩ : ∃ d1, d1 = d + 1 := ⟨_, rfl⟩
  obtain ⟨F, e2⟩ : ∃ F, F = d - k := ⟨_, rfl⟩
  obtain ⟨F6, e3⟩ : ∃ F6, F6 = F + 6 := ⟨_, rfl⟩
  obtain ⟨F7, e4⟩ : ∃ F7, F7 = F + 7 := ⟨_, rfl⟩
  obtain ⟨Fm, e5⟩ : ∃ Fm, Fm = F - 1 := ⟨_, rfl⟩
  obtain ⟨x1, e6⟩ : ∃ x1, x1 = x + 1 := ⟨_, rfl⟩
  obtain ⟨xm, e7⟩ : ∃ xm, xm = x - 1 := ⟨_, rfl⟩
  have p1 : IntKind.i64.wrap (d + 1) = d1 := by rw [IntKind.wrap_i64]; omega
  have p2 : IntKind.i64.wrap (d - k) = F := by rw [IntKind.wrap_i64]; omega
  have p3 : IntKind.i64.wrap (F + 6) = F6 := by rw [IntKind.wrap_i64]; omega
  have p4 : IntKind.i64.wrap (F + 7) = F7 := by rw [IntKind.wrap_i64]; omega
  have p5 : IntKind.i64.wrap (F - 1) = Fm := by rw [IntKind.wrap_i64]; omega
  have p6 : IntKind.i64.wrap (x + 1) = x1 := by rw [IntKind.wrap_i64]; omega
  have p7 : IntKind.i64.wrap (x - 1) = xm := by rw [IntKind.wrap_i64]; omega
  rw [← e1] at B2
  rw [← e2] at KF W1 W2 W3 W4
  rw [← e3] at W2
  rw [← e4, ← e6] at W3
  rw [← e5, ← e7] at W4
  clear e1 e2 e3 e4 e5 e6 e7 q7 q8 q9 qA
  go_enter Tryd.func7, Tryd.ntmps7
  go_wp2_with fail
  refine (A _ hz).mono ?_
  rintro e w1 ⟨rfl, hz1⟩
  clear A
  go_wp2_with fail
  refine (B1 _ hz1).mono ?_
  rintro e v0 ⟨rfl, y0⟩
  clear B1
  go_wp2_with fail
  refine (B2 _ y0).mono ?_
  rintro e v1 ⟨rfl, y1⟩
  clear B2 y0
  go_wp2_with fail
  refine (Kd _ y1).mono ?_
  rintro e v2 ⟨rfl, y2⟩
  clear Kd y1
  go_wp2_with fail
  refine (KF _ y2).mono ?_
  rintro e v3 ⟨rfl, y3⟩
  clear KF y2
  go_wp2_with fail
  refine (W1 _ y3).mono ?_
  rintro e v4 ⟨rfl, y4⟩
  clear W1 y3
  go_wp2_with fail
  refine (W0 _ y4).mono ?_
  rintro e v5 ⟨rfl, y5⟩
  clear y4
  go_wp2_with fail
  refine (W2 _ y5).mono ?_
  rintro e v6 ⟨rfl, y6⟩
  clear W2 y5
  go_wp2_with fail
  refine (W0 _ y6).mono ?_
  rintro e v7 ⟨rfl, y7⟩
  clear y6
  go_wp2_with fail
  refine (W3 _ y7).mono ?_
  rintro e v8 ⟨rfl, y8⟩
  clear W3 y7
  go_wp2_with fail
  refine (W0 _ y8).mono ?_
  rintro e v9 ⟨rfl, y9⟩
  clear y8
  go_wp2_with fail
  refine (W4 _ y9).mono ?_
  rintro e v10 ⟨rfl, y10⟩
  clear W4 y9
  go_wp2_with fail
  refine (W0 _ y10).mono ?_
  rintro e v11 ⟨rfl, y11⟩
  clear W0 y10
  go_wp2_with fail
  go_ret
  exact ⟨by simp, y11⟩
end Go.Proofs.YtgcdldbfikodaaaDoor.Hand
