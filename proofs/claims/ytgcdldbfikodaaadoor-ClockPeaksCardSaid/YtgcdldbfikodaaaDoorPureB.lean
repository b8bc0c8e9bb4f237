/- The plain laws of the clock's days, weeks and bounds: the program's numbers are the document's. -/
import Derived.Test.YtgcdldbfikodaaaDoorXAx1
namespace Go.Proofs.YtgcdldbfikodaaaDoor.Hand
open Go.RowKit Go.Proofs.YtgcdldbfikodaaaDoor.XA

theorem td (a c : Int) : a.tdiv c = if 0 ≤ a then a / c else -((-a) / c) := by
  split
  · exact Int.tdiv_eq_ediv_of_nonneg (by assumption)
  · have h : (-a).tdiv c = (-a) / c := Int.tdiv_eq_ediv_of_nonneg (by omega)
    rw [Int.neg_tdiv] at h
    omega
theorem tm (a c : Int) : a.tmod c = if 0 ≤ a then a % c else -((-a) % c) := by
  split
  · exact Int.tmod_eq_emod_of_nonneg (by assumption)
  · have h : (-a).tmod c = (-a) % c := Int.tmod_eq_emod_of_nonneg (by omega)
    rw [Int.neg_tmod] at h
    omega
def rightS (t : Int) : Bool := decide (0 ≤ t ∧ t ≤ 2147483648)
def saidS (d : Int) : Bool := decide (-1099511627776 ≤ d ∧ d ≤ 1099511627776)
theorem right_f (t : Int) : clock_Right.f t = some (rightS t) := by
  unfold clock_Right.f rightS
  by_cases h : 0 ≤ t <;> simp [h]
theorem ref_right_f (t : Int) : fareboxref06_Right.f t = some (rightS t) := by
  unfold fareboxref06_Right.f rightS
  by_cases h : 0 ≤ t <;> simp [h]
theorem said_f (d : Int) : clock_said.f d = some (saidS d) := by
  unfold clock_said.f saidS
  by_cases h : (-1099511627776) ≤ d <;> simp [h]
theorem within_f (d : Int) : fareboxref06_within.f d = some (saidS d) := by
  unfold fareboxref06_within.f saidS
  by_cases h : (-1099511627776) ≤ d <;> simp [h]
def dayS (t : Int) : Int × Int := if 0 ≤ t ∧ t ≤ 2147483648 then ((t - 270) / 1440, 0) else (0, 60)
def boundsS (d : Int) : Int × Int := if -1099511627776 ≤ d ∧ d ≤ 1099511627776 then (1440 * d + 270, 1440 * d + 1710) else (0, 0)
def weekS (d : Int) : Int := if -1099511627776 ≤ d ∧ d ≤ 1099511627776 then d / 7 else 0
def weekdayS (d : Int) : Int := if -1099511627776 ≤ d ∧ d ≤ 1099511627776 then d % 7 else 0
theorem w64 (n : Int) (h : -9223372036854775808 ≤ n ∧ n ≤ 9223372036854775807) : wrap64 n = n := by unfold wrap64; omega
theorem down7 (a : Int) (h0 : -4611686018427387904 ≤ a) (h1 : a ≤ 4611686018427387904) : fareboxref06_down.f a 7 = some (a / 7) := by
  unfold fareboxref06_down.f
  rw [if_neg (by decide), td a 7, tm a 7]
  by_cases h : 0 ≤ a
  · rw [if_pos h, if_pos h, if_neg (by omega), w64 _ (by omega)]
  · rw [if_neg h, if_neg h, w64 (-(-a / 7)) (by omega), w64 _ (by omega)]
    by_cases hm : -(-a % 7) < 0
    · rw [if_pos hm]; congr 1; omega
    · rw [if_neg hm]; congr 1; omega
theorem down1440 (a : Int) (h0 : -4611686018427387904 ≤ a) (h1 : a ≤ 4611686018427387904) : fareboxref06_down.f a 1440 = some (a / 1440) := by
  unfold fareboxref06_down.f
  rw [if_neg (by decide), td a 1440, tm a 1440]
  by_cases h : 0 ≤ a
  · rw [if_pos h, if_pos h, if_neg (by omega), w64 _ (by omega)]
  · rw [if_neg h, if_neg h, w64 (-(-a / 1440)) (by omega), w64 _ (by omega)]
    by_cases hm : -(-a % 1440) < 0
    · rw [if_pos hm]; congr 1; omega
    · rw [if_neg hm]; congr 1; omega
theorem day_f (t : Int) : clock_Day.f t = some (dayS t) := by
  unfold clock_Day.f
  rw [right_f]
  show (if rightS t = true then _ else _) = _
  unfold rightS dayS
  by_cases h : 0 ≤ t ∧ t ≤ 2147483648
  · rw [if_pos (decide_eq_true h), if_pos h, w64 (t + 1440) (by omega), w64 (t + 1440 - 270) (by omega), td, if_pos (by omega), w64 ((t + 1440 - 270) / 1440) (by omega), w64 _ (by omega)]
    congr 2
    omega
  · rw [if_neg (by simpa using h), if_neg h]
theorem ref_day_f (t : Int) : fareboxref06_Day.f t = some (dayS t) := by
  unfold fareboxref06_Day.f
  rw [ref_right_f]
  show (if rightS t = true then _ else _) = _
  unfold rightS dayS
  by_cases h : 0 ≤ t ∧ t ≤ 2147483648
  · rw [if_pos (decide_eq_true h), if_pos h, w64 (t - 270) (by omega), down1440 _ (by omega) (by omega)]
    rfl
  · rw [if_neg (by simpa using h), if_neg h]
theorem bounds_f (d : Int) : clock_Bounds.f d = some (boundsS d) := by
  unfold clock_Bounds.f
  rw [said_f]
  show (if saidS d = true then _ else _) = _
  unfold saidS boundsS
  by_cases h : -1099511627776 ≤ d ∧ d ≤ 1099511627776
  · rw [if_pos (decide_eq_true h), if_pos h, w64 (d * 1440) (by omega), w64 (d * 1440 + 270) (by omega), w64 _ (by omega)]
    congr 2 <;> omega
  · rw [if_neg (by simpa using h), if_neg h]
theorem ref_bounds_f (d : Int) : fareboxref06_Bounds.f d = some (boundsS d) := by
  unfold fareboxref06_Bounds.f
  rw [within_f]
  show (if saidS d = true then _ else _) = _
  unfold saidS boundsS
  by_cases h : -1099511627776 ≤ d ∧ d ≤ 1099511627776
  · rw [if_pos (decide_eq_true h), if_pos h, w64 (1440 * d) (by omega), w64 (1440 * d + 270) (by omega), w64 (1440 * d + 1440) (by omega), w64 _ (by omega)]
    congr 2
    omega
  · rw [if_neg (by simpa using h), if_neg h]
theorem weekday_f (d : Int) : clock_Weekday.f d = some (weekdayS d) := by
  unfold clock_Weekday.f
  rw [said_f]
  show (if saidS d = true then _ else _) = _
  unfold saidS weekdayS
  by_cases h : -1099511627776 ≤ d ∧ d ≤ 1099511627776
  · rw [if_pos (decide_eq_true h), if_pos h, tm d 7]
    by_cases hd : 0 ≤ d
    · rw [if_pos hd, w64 _ (by omega), tm, if_pos (by omega)]
      congr 1
      omega
    · rw [if_neg hd, w64 _ (by omega), tm, if_pos (by omega)]
      congr 1
      omega
  · rw [if_neg (by simpa using h), if_neg h]
theorem ref_weekday_f (d : Int) : fareboxref06_Weekday.f d = some (weekdayS d) := by
  unfold fareboxref06_Weekday.f
  rw [within_f]
  show (if saidS d = true then _ else _) = _
  unfold saidS weekdayS
  by_cases h : -1099511627776 ≤ d ∧ d ≤ 1099511627776
  · rw [if_pos (decide_eq_true h), if_pos h, down7 _ (by omega) (by omega)]
    show some (wrap64 (d - wrap64 (7 * (d / 7)))) = _
    rw [w64 (7 * (d / 7)) (by omega), w64 _ (by omega)]
    congr 1
    omega
  · rw [if_neg (by simpa using h), if_neg h]
theorem week_f (d : Int) : clock_Week.f d = some (weekS d) := by
  unfold clock_Week.f
  rw [said_f]
  show (if saidS d = true then _ else _) = _
  rw [weekday_f]
  unfold saidS weekS weekdayS
  by_cases h : -1099511627776 ≤ d ∧ d ≤ 1099511627776
  · rw [if_pos (decide_eq_true h), if_pos h, if_pos h]
    show some (wrap64 ((wrap64 (d - d % 7)).tdiv 7)) = _
    rw [w64 (d - d % 7) (by omega), td]
    by_cases hd : 0 ≤ d - d % 7
    · rw [if_pos hd, w64 _ (by omega)]
      congr 1
      omega
    · rw [if_neg hd, w64 _ (by omega)]
      congr 1
      omega
  · rw [if_neg (by simpa using h), if_neg h]
theorem ref_week_f (d : Int) : fareboxref06_Week.f d = some (weekS d) := by
  unfold fareboxref06_Week.f
  rw [within_f]
  show (if saidS d = true then _ else _) = _
  unfold saidS weekS
  by_cases h : -1099511627776 ≤ d ∧ d ≤ 1099511627776
  · rw [if_pos (decide_eq_true h), if_pos h, down7 _ (by omega) (by omega)]
    rfl
  · rw [if_neg (by simpa using h), if_neg h]
end Go.Proofs.YtgcdldbfikodaaaDoor.Hand
