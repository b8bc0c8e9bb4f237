/- The plain law of the document's Peak; the bands' cells. -/
import Derived.Test.YtgcdldbfikodaaaDoorHandM
namespace Go.Proofs.YtgcdldbfikodaaaDoor.Hand
open Go.RowKit Go.Sort Go.Lib Go.Proofs.YtgcdldbfikodaaaDoorW.PrintWords Go.Proofs.YtgcdldbfikodaaaDoor.XA

theorem rpeak_l0 (l : List S37) (t : Int) (hl : l.length ≤ 281474976710656) : ∀ m i : Nat, i + m = l.length → fareboxref06_Peak.l0 (m + 1) l t i = some ((l.drop i).any (inS · t))
  | 0, i, h => by
    unfold fareboxref06_Peak.l0
    rw [if_neg (by omega), List.drop_of_length_le (by omega)]
    rfl
  | m + 1, i, h => by
    have hi : i < l.length := by omega
    have e : l.drop i = l[i] :: l.drop (i + 1) := List.drop_eq_getElem_cons hi
    have e2 : rd_T37 l i = l[i] := by simp [rd_T37, List.getD, List.getElem?_eq_getElem hi]
    have e3 : wrap64 ((i : Int) + 1) = ((i + 1 : Nat) : Int) := by rw [w64 _ (by omega)]; rfl
    have ih := rpeak_l0 l t hl m (i + 1) (by omega)
    unfold fareboxref06_Peak.l0
    rw [if_pos (by omega), if_pos (by omega), e2, e3, ih, e, List.any_cons]
    unfold inS
    by_cases h1 : t.tmod 1440 ≥ l[i].f0
    · rw [if_pos h1, decide_eq_true (show l[i].f0 ≤ t.tmod 1440 from h1)]
      by_cases h2 : t.tmod 1440 < l[i].f1
      · rw [if_pos h2, decide_eq_true h2]
        rfl
      · rw [if_neg h2, decide_eq_false h2]
        rfl
    · rw [if_neg h1, decide_eq_false (show ¬ l[i].f0 ≤ t.tmod 1440 from h1)]
      rfl
theorem j0_succ (k : Nat) (l : List S37) (t : Int) (b : Bool) : fareboxref06_Peak.j0 (k + 1) l t b = if b = true then some false else fareboxref06_Peak.l0 k l t 0 := by rw [fareboxref06_Peak.j0]
theorem rpeak_f (l : List S37) (t : Int) (hl : l.length ≤ 281474976710656) : fareboxref06_Peak.f (l.length + 2) l t = some (peakS l t) := by
  unfold fareboxref06_Peak.f peakS
  rw [ref_day_f]
  show (if (dayS t).2 = 0 then _ else _) = _
  by_cases h : (dayS t).2 = 0
  · rw [if_pos h, decide_eq_true h, ref_weekday_f]
    show fareboxref06_Peak.j0 (l.length + 1 + 1) l t (decide (weekdayS (dayS t).1 > 4)) = _
    rw [j0_succ]
    by_cases h2 : weekdayS (dayS t).1 > 4
    · rw [if_pos (decide_eq_true h2), decide_eq_false (by omega)]
      rfl
    · rw [if_neg (by simpa using h2), decide_eq_true (by omega)]
      have := rpeak_l0 l t hl l.length 0 (by omega)
      rw [List.drop_zero] at this
      exact this
  · rw [if_neg h, decide_eq_false h]
    show fareboxref06_Peak.j0 (l.length + 1 + 1) l t true = _
    rw [j0_succ]
    rw [if_pos rfl]
    rfl
theorem rpeak_any (A : Option Addr) (c : Nat) (l : List S37) (t : Int) (w : World) (hr : Kd.C k37 w A l.length l) (hc : l.length ≤ c) (hl : l.length ≤ 281474976710656) : Calls Tryd.prog 25 #[.slice A l.length c, .int .i64 t] w fun e w' => e = .returned (.bool (peakS l t)) ∧ Drawn0 w w' :=
  fareboxref06_Peak.calls (l.length + 2) A c l t _ w hr hc (rpeak_f l t hl)

/-- The cells of bands. -/
def bandsV : List S37 → List Value
  | [] => []
  | x :: l => .int .i64 x.f0 :: .int .i64 x.f1 :: bandsV l
theorem bandsV_length : ∀ l : List S37, (bandsV l).length = l.length * 2
  | [] => rfl
  | x :: l => by have := bandsV_length l; simp only [bandsV, List.length_cons, this]; omega
theorem bandsV_app : ∀ l m : List S37, bandsV (l ++ m) = bandsV l ++ bandsV m
  | [], m => rfl
  | x :: l, m => by simp only [bandsV, List.cons_append, bandsV_app l m]
theorem bandsV_at : ∀ (l : List S37) (i : Nat) (h : i < l.length), (bandsV l)[i * 2]? = some (.int .i64 l[i].f0) ∧ (bandsV l)[i * 2 + 1]? = some (.int .i64 l[i].f1)
  | x :: l, 0, _ => ⟨rfl, rfl⟩
  | x :: l, i + 1, h => by
    have := bandsV_at l i (by simpa using h)
    have e1 : (i + 1) * 2 = i * 2 + 1 + 1 := by omega
    rw [e1]
    simpa [bandsV] using this
theorem bandsV_one (l : List S37) : ∀ u ∈ bandsV l, u.oneCell' = true := by
  induction l with
  | nil => intro u hu; cases hu
  | cons x l ih =>
    intro u hu
    simp only [bandsV, List.mem_cons] at hu
    rcases hu with rfl | rfl | hu
    · rfl
    · rfl
    · exact ih u hu
theorem bands_cells {w : World} {A : Option Addr} {l : List S37} (hr : Kd.C k37 w A l.length l) : ∀ ad, A = some ad → ∀ j u, (bandsV l)[j]? = some u → w.cell? (ad.add j) = some u := by
  rintro ad rfl j u hu
  have hj : j < l.length * 2 := by
    have := (List.getElem?_eq_some_iff.1 hu).1
    rw [bandsV_length] at this
    exact this
  obtain ⟨i, hi⟩ : ∃ i, i = j / 2 := ⟨_, rfl⟩
  have hil : i < l.length := by omega
  obtain ⟨a1, c, ea, _, hK, hc⟩ := Kd.C_get hr z37 (i : Nat) (by omega) (by omega)
  obtain rfl := Option.some.inj ea
  have e2 : l.getD ((i : Int)).toNat z37 = l[i] := by rw [Int.toNat_natCast]; simp [List.getD, List.getElem?_eq_getElem hil]
  rw [e2] at hK
  obtain rfl := k37_open hK
  obtain ⟨b0, b1⟩ := bandsV_at l i hil
  rw [Int.toNat_natCast] at hc
  have es : Kd.sz k37 = 2 := rfl
  rw [es] at hc
  by_cases hp : j = i * 2
  · rw [hp, b0] at hu
    obtain rfl := Option.some.inj hu
    rw [hp]
    exact hc 0 _ rfl
  · have hp1 : j = i * 2 + 1 := by omega
    rw [hp1, b1] at hu
    obtain rfl := Option.some.inj hu
    rw [hp1]
    exact hc 1 _ rfl
theorem blk_of_own {w : World} {base g n : Nat} {xs : List Value} (h : w.ownsRow base 37 2 (.slice (some ⟨g, 0, none⟩) n n) n xs) : w.heap[g]? = some (.cells xs.toArray 37 (0, 0)) := by
  rcases h.2 with ⟨h1, _⟩ | ⟨g', cap, cur, h1, _, hh, _, _, hs, ht⟩
  · cases h1
  · injection h1 with h2 h3 h4
    injection h2 with h2
    injection h2 with h2
    subst h2 h4
    have e : cur.toList.length = n * 2 := by simp; omega
    rw [List.take_of_length_le (by omega)] at ht
    rw [← ht]
    exact hh
theorem C_of_cells {w : World} {g : Nat} {l : List S37} (hl : l.length ≤ 281474976710656) (h : ∀ j u, (bandsV l)[j]? = some u → w.cell? ⟨g, j, none⟩ = some u) : Kd.C k37 w (some ⟨g, 0, none⟩) l.length l := by
  refine ⟨rfl, by omega, fun _ => ⟨_, rfl, fun j p hj => ⟨[.int .i64 p.f0, .int .i64 p.f1], rfl, k37_mk w p, fun i u hu => ?_⟩⟩⟩
  obtain ⟨hjl, rfl⟩ := List.getElem?_eq_some_iff.1 hj
  obtain ⟨b0, b1⟩ := bandsV_at l j hjl
  have es : Kd.sz k37 = 2 := rfl
  rw [es]
  have ea : ∀ k, (⟨g, 0, none⟩ : Addr).add k = ⟨g, k, none⟩ := by
    intro k
    unfold Addr.add
    split
    · rename_i h
      rw [h]
    · simp
  rw [ea]
  match i, hu with
  | 0, hu => exact h _ _ (b0.trans hu)
  | 1, hu => exact h _ _ (b1.trans hu)
end Go.Proofs.YtgcdldbfikodaaaDoor.Hand
