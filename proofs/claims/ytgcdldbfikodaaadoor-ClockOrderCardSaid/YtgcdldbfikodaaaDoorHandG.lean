/- ClockOrder, ClockWeeks, walked. -/
import Derived.Test.YtgcdldbfikodaaaDoorHandF
namespace Go.Proofs.YtgcdldbfikodaaaDoor.Hand
open Go.RowKit Go.Sort Go.Lib Go.Proofs.YtgcdldbfikodaaaDoorW.PrintWords Go.Proofs.YtgcdldbfikodaaaDoor.XA


set_option maxHeartbeats 2000000 in
set_option maxRecDepth 20000 in
theorem order_any (t u : Int) (w : World) (L : Laid w) : Calls Tryd.prog 6 #[.int .i64 t, .int .i64 u] w fun e w' => e = .returned (.bool true) ∧ Kept w w' := by
  obtain ⟨z, hzw⟩ : ∃ z, z = w := ⟨_, rfl⟩
  have hz : Kept z w := by rw [hzw]; exact Kept.refl _
  suffices H : Calls Tryd.prog 6 #[.int .i64 t, .int .i64 u] w fun e w' => e = .returned (.bool true) ∧ Kept z w' by rw [hzw] at H; exact H
  rw [← hzw] at L
  clear hzw
  have A := fun w h => awake_any z L w h
  have D1 := fun w h => day_k z w h t
  have D2 := fun w h => day_k z w h u
  have K1 := fun w h => week_k z w h (dayS t).1
  have K2 := fun w h => week_k z w h (dayS u).1
  have c1 : (dayS t).2 = 0 → (dayS u).2 = 0 → t ≤ u → (dayS t).1 ≤ (dayS u).1 ∧ weekS (dayS t).1 ≤ weekS (dayS u).1 := by
    unfold dayS weekS
    intro h1 h2 h
    split at h1
    · rename_i r1
      split at h2
      · rename_i r2
        rw [if_pos r1, if_pos r2]
        dsimp only
        rw [if_pos (by omega), if_pos (by omega)]
        omega
      · cases h2
    · cases h1
  have c2 : (dayS t).2 = 0 → (dayS u).2 = 0 → ¬ t ≤ u → (dayS u).1 ≤ (dayS t).1 ∧ weekS (dayS u).1 ≤ weekS (dayS t).1 := by
    unfold dayS weekS
    intro h1 h2 h
    split at h1
    · rename_i r1
      split at h2
      · rename_i r2
        rw [if_pos r1, if_pos r2]
        dsimp only
        rw [if_pos (by omega), if_pos (by omega)]
        omega
      · cases h2
    · cases h1
  generalize weekS (dayS t).1 = x1 at K1 c1 c2
  generalize weekS (dayS u).1 = x2 at K2 c1 c2
  generalize (dayS t).1 = v1 at D1 c1 c2 K1
  generalize (dayS t).2 = v2 at D1 c1 c2
  generalize (dayS u).1 = v3 at D2 c1 c2 K2
  generalize (dayS u).2 = v4 at D2 c1 c2
  have C1 := Lib.hid c1
  have C2 := Lib.hid c2
  clear L c1 c2
  go_enter Tryd.func6, Tryd.ntmps6
  go_wp2_with fail
  refine (A _ hz).mono ?_
  rintro e w1 ⟨rfl, hz1⟩
  go_wp2_with fail
  refine (D1 _ hz1).mono ?_
  rintro e w2 ⟨rfl, hz2⟩
  go_wp2_with fail
  refine (D2 _ hz2).mono ?_
  rintro e w3 ⟨rfl, hz3⟩
  clear A D1 D2 hz hz1 hz2
  by_cases e1 : v2 = 0
  · by_cases e2 : v4 = 0
    · by_cases hle : t ≤ u
      · obtain ⟨m1, m2⟩ := C1.out e1 e2 hle
        clear C1 C2
        go_wp2_with fail
        refine (K1 _ hz3).mono ?_
        rintro e w4 ⟨rfl, hz4⟩
        go_wp2_with fail
        refine (K2 _ hz4).mono ?_
        rintro e w5 ⟨rfl, hz5⟩
        go_wp2_with fail
        go_ret
        exact ⟨by simp, hz5⟩
      · obtain ⟨m1, m2⟩ := C2.out e1 e2 (by omega)
        clear C1 C2
        go_wp2_with fail
        refine (K1 _ hz3).mono ?_
        rintro e w4 ⟨rfl, hz4⟩
        go_wp2_with fail
        refine (K2 _ hz4).mono ?_
        rintro e w5 ⟨rfl, hz5⟩
        go_wp2_with fail
        go_ret
        exact ⟨by simp, hz5⟩
    · clear C1 C2
      go_wp2_with fail
      go_ret
      exact ⟨rfl, hz3⟩
  · clear C1 C2
    go_wp2_with fail
    go_ret
    exact ⟨rfl, hz3⟩
end Go.Proofs.YtgcdldbfikodaaaDoor.Hand
