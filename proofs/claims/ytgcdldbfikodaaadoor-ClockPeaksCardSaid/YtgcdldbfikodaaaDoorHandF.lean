/- ClockTells, walked. -/
import Derived.Test.YtgcdldbfikodaaaDoorHandE
import Derived.Test.YtgcdldbfikodaaaDoorPureB
namespace Go.Proofs.YtgcdldbfikodaaaDoor.Hand
open Go.RowKit Go.Sort Go.Lib Go.Proofs.YtgcdldbfikodaaaDoorW.PrintWords Go.Proofs.YtgcdldbfikodaaaDoor.XA

section
variable (z w : World) (h : Kept z w)
include h
theorem right_k (t : Int) : Calls Tryd.prog 14 #[.int .i64 t] w fun e w' => e = .returned (.bool (rightS t)) ∧ Kept z w' := (clock_Right.calls t _ w (right_f t)).mono fun _ _ ⟨he, hd⟩ => ⟨he, h.drawn hd⟩
theorem rright_k (t : Int) : Calls Tryd.prog 19 #[.int .i64 t] w fun e w' => e = .returned (.bool (rightS t)) ∧ Kept z w' := (fareboxref06_Right.calls t _ w (ref_right_f t)).mono fun _ _ ⟨he, hd⟩ => ⟨he, h.drawn hd⟩
theorem day_k (t : Int) : Calls Tryd.prog 15 #[.int .i64 t] w fun e w' => e = .returned (.tuple #[.int .i64 (dayS t).1, .int .i64 (dayS t).2]) ∧ Kept z w' := (clock_Day.calls t _ _ w (day_f t)).mono fun _ _ ⟨he, hd⟩ => ⟨he, h.drawn hd⟩
theorem rday_k (t : Int) : Calls Tryd.prog 17 #[.int .i64 t] w fun e w' => e = .returned (.tuple #[.int .i64 (dayS t).1, .int .i64 (dayS t).2]) ∧ Kept z w' := (fareboxref06_Day.calls t _ _ w (ref_day_f t)).mono fun _ _ ⟨he, hd⟩ => ⟨he, h.drawn hd⟩
theorem bounds_k (d : Int) : Calls Tryd.prog 16 #[.int .i64 d] w fun e w' => e = .returned (.tuple #[.int .i64 (boundsS d).1, .int .i64 (boundsS d).2]) ∧ Kept z w' := (clock_Bounds.calls d _ _ w (bounds_f d)).mono fun _ _ ⟨he, hd⟩ => ⟨he, h.drawn hd⟩
theorem rbounds_k (d : Int) : Calls Tryd.prog 18 #[.int .i64 d] w fun e w' => e = .returned (.tuple #[.int .i64 (boundsS d).1, .int .i64 (boundsS d).2]) ∧ Kept z w' := (fareboxref06_Bounds.calls d _ _ w (ref_bounds_f d)).mono fun _ _ ⟨he, hd⟩ => ⟨he, h.drawn hd⟩
theorem week_k (d : Int) : Calls Tryd.prog 20 #[.int .i64 d] w fun e w' => e = .returned (.int .i64 (weekS d)) ∧ Kept z w' := (clock_Week.calls d _ w (week_f d)).mono fun _ _ ⟨he, hd⟩ => ⟨he, h.drawn hd⟩
theorem rweek_k (d : Int) : Calls Tryd.prog 21 #[.int .i64 d] w fun e w' => e = .returned (.int .i64 (weekS d)) ∧ Kept z w' := (fareboxref06_Week.calls d _ w (ref_week_f d)).mono fun _ _ ⟨he, hd⟩ => ⟨he, h.drawn hd⟩
theorem weekday_k (d : Int) : Calls Tryd.prog 22 #[.int .i64 d] w fun e w' => e = .returned (.int .i64 (weekdayS d)) ∧ Kept z w' := (clock_Weekday.calls d _ w (weekday_f d)).mono fun _ _ ⟨he, hd⟩ => ⟨he, h.drawn hd⟩
theorem rweekday_k (d : Int) : Calls Tryd.prog 23 #[.int .i64 d] w fun e w' => e = .returned (.int .i64 (weekdayS d)) ∧ Kept z w' := (fareboxref06_Weekday.calls d _ w (ref_weekday_f d)).mono fun _ _ ⟨he, hd⟩ => ⟨he, h.drawn hd⟩
end

set_option maxHeartbeats 2000000 in
set_option maxRecDepth 20000 in
theorem tells_any (t d : Int) (w : World) (L : Laid w) : Calls Tryd.prog 4 #[.int .i64 t, .int .i64 d] w fun e w' => e = .returned (.bool true) ∧ Kept w w' := by
  obtain ⟨z, hzw⟩ : ∃ z, z = w := ⟨_, rfl⟩
  have hz : Kept z w := by rw [hzw]; exact Kept.refl _
  suffices H : Calls Tryd.prog 4 #[.int .i64 t, .int .i64 d] w fun e w' => e = .returned (.bool true) ∧ Kept z w' by rw [hzw] at H; exact H
  rw [← hzw] at L
  clear hzw
  have A := fun w h => awake_any z L w h
  have K14 := fun w h => right_k z w h t
  have K15 := fun w h => day_k z w h t
  have K16 := fun w h => bounds_k z w h d
  have K17 := fun w h => rday_k z w h t
  have K18 := fun w h => rbounds_k z w h d
  have K19 := fun w h => rright_k z w h t
  have K20 := fun w h => week_k z w h d
  have K21 := fun w h => rweek_k z w h d
  have K22 := fun w h => weekday_k z w h d
  have K23 := fun w h => rweekday_k z w h d
  generalize rightS t = vr at K14 K19
  generalize (dayS t).1 = v1 at K15 K17
  generalize (dayS t).2 = v2 at K15 K17
  generalize (boundsS d).1 = v3 at K16 K18
  generalize (boundsS d).2 = v4 at K16 K18
  generalize weekS d = v5 at K20 K21
  generalize weekdayS d = v6 at K22 K23
  clear L
  go_enter Tryd.func4, Tryd.ntmps4
  go_wp2_with (first
    | (go_at_call 9; refine (A _ (by assumption)).mono ?_; rintro e w' ⟨rfl, hk⟩)
    | (go_at_call 14; refine (K14 _ (by assumption)).mono ?_; rintro e w' ⟨rfl, hk⟩)
    | (go_at_call 15; refine (K15 _ (by assumption)).mono ?_; rintro e w' ⟨rfl, hk⟩)
    | (go_at_call 16; refine (K16 _ (by assumption)).mono ?_; rintro e w' ⟨rfl, hk⟩)
    | (go_at_call 17; refine (K17 _ (by assumption)).mono ?_; rintro e w' ⟨rfl, hk⟩)
    | (go_at_call 18; refine (K18 _ (by assumption)).mono ?_; rintro e w' ⟨rfl, hk⟩)
    | (go_at_call 19; refine (K19 _ (by assumption)).mono ?_; rintro e w' ⟨rfl, hk⟩)
    | (go_at_call 20; refine (K20 _ (by assumption)).mono ?_; rintro e w' ⟨rfl, hk⟩)
    | (go_at_call 21; refine (K21 _ (by assumption)).mono ?_; rintro e w' ⟨rfl, hk⟩)
    | (go_at_call 22; refine (K22 _ (by assumption)).mono ?_; rintro e w' ⟨rfl, hk⟩)
    | (go_at_call 23; refine (K23 _ (by assumption)).mono ?_; rintro e w' ⟨rfl, hk⟩))
  all_goals go_ret
  all_goals exact ⟨by simp, by assumption⟩
end Go.Proofs.YtgcdldbfikodaaaDoor.Hand
