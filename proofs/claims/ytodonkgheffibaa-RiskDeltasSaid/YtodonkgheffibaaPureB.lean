/- The plain laws of sorted lists of texts: what plus and less answer, as sets; what a delta leads to. No walk stands here. -/
import Derived.Test.YtodonkgheffibaaPureA
import Derived.Test.YtodonkgheffibaaHand4
namespace Go.Proofs.Ytodonkgheffibaa.PB
open Go.RowKit Go.Proofs.Ytodonkgheffibaa.PA Go.Proofs.Ytodonkgheffibaa.Hand

theorem toL_eq (s : ByteArray) : s.toList = toL s := ByteArray.toList_eq s
theorem toL_ofL (l : List UInt8) : toL (ofL l) = l := rfl
theorem ofL_toL (s : ByteArray) : ofL (toL s) = s := rfl

/-! ### rising lists -/
theorem rising_sorted (l : List ByteArray) : risingS l = true ↔ l.Pairwise (fun a b => a.toList < b.toList) := by
  induction l with
  | nil => simp [risingS]
  | cons a r ih =>
    cases r with
    | nil => simp [risingS]
    | cons b r =>
      rw [risingS, Bool.and_eq_true, ih, lt_iff]
      constructor
      · rintro ⟨h1, h2⟩
        refine List.Pairwise.cons (fun c hc => ?_) h2
        rcases List.mem_cons.1 hc with rfl | hc
        · exact h1
        · exact List.lt_trans h1 (List.rel_of_pairwise_cons h2 hc)
      · intro h
        exact ⟨List.rel_of_pairwise_cons h (List.mem_cons_self ..), List.Pairwise.of_cons h⟩
abbrev Rise (l : List ByteArray) : Prop := l.Pairwise (fun a b => a.toList < b.toList)
theorem sorted_of_rise {l : List ByteArray} (h : Rise l) : Sorted l := fun i j hi hj hij => List.pairwise_iff_getElem.1 h i j hi hj hij
/-- Two rising lists of the same things are one. -/
theorem rise_ext {a b : List ByteArray} (ha : Rise a) (hb : Rise b) (h : ∀ x, x ∈ a ↔ x ∈ b) : a = b := by
  have nd : ∀ {l : List ByteArray}, Rise l → l.Nodup := fun hl => hl.imp (fun hlt e => by subst e; exact List.lt_irrefl _ hlt)
  have hp : a.Perm b := (List.perm_ext_iff_of_nodup (nd ha) (nd hb)).2 h
  refine List.Perm.eq_of_pairwise (le := fun x y => x.toList < y.toList) (fun x y _ _ h1 h2 => ?_) ha hb hp
  exact absurd (List.lt_trans h1 h2) (List.lt_irrefl _)

/-! ### plus -/
theorem mem_compactUpTo (d : Array (List UInt8)) (m : Nat) (hm : m ≤ d.size) (hs : ∀ i j, i < j → j < d.size → d[i]! ≤ d[j]!) :
    (Lib.compactUpTo d m).Pairwise (· < ·) ∧ (∀ x, x ∈ Lib.compactUpTo d m ↔ ∃ i, i < m ∧ d[i]! = x) ∧ (∀ x ∈ Lib.compactUpTo d m, ∀ j, m ≤ j + 1 → j < d.size → x ≤ d[j]!) := by
  induction m with
  | zero => exact ⟨by simp [Lib.compactUpTo], fun x => by simp [Lib.compactUpTo], fun x hx => by simp [Lib.compactUpTo] at hx⟩
  | succ m ih =>
    obtain ⟨h1, h2, h3⟩ := ih (by omega)
    rw [Lib.compactUpTo_succ]
    by_cases hk : Lib.keeps d m = true
    · rw [if_pos hk]
      have hlt : ∀ x ∈ Lib.compactUpTo d m, x < d[m]! := by
        intro x hx
        rcases Nat.eq_zero_or_pos m with h0 | h0
        · subst h0
          simp [Lib.compactUpTo] at hx
        · have hle := h3 x hx (m - 1) (by omega) (by omega)
          have hne : d[m]! ≠ d[m - 1]! := by
            simp [Lib.keeps] at hk
            rcases hk with hk | hk
            · omega
            · exact hk
          have hle2 := hs (m - 1) m (by omega) (by omega)
          exact List.lt_of_le_of_lt hle (by
            rcases List.le_iff_lt_or_eq.1 hle2 with h | h
            · exact h
            · exact absurd h.symm hne)
      refine ⟨?_, fun x => ?_, fun x hx j hj hjd => ?_⟩
      · refine List.pairwise_append.2 ⟨h1, by simp, fun x hx y hy => ?_⟩
        simp at hy
        subst hy
        exact hlt x hx
      · rw [List.mem_append, h2]
        constructor
        · rintro (⟨i, hi, rfl⟩ | hx)
          · exact ⟨i, by omega, rfl⟩
          · simp at hx
            exact ⟨m, by omega, hx.symm⟩
        · rintro ⟨i, hi, rfl⟩
          rcases Nat.lt_or_ge i m with h | h
          · exact .inl ⟨i, h, rfl⟩
          · obtain rfl : i = m := by omega
            exact .inr (by simp)
      · rcases List.mem_append.1 hx with hx | hx
        · exact h3 x hx j (by omega) hjd
        · simp at hx
          subst hx
          rcases Nat.lt_or_ge m j with h | h
          · exact hs m j h hjd
          · obtain rfl : j = m := by omega
            exact List.le_refl _
    · rw [if_neg hk, List.append_nil]
      have hm0 : 0 < m := by
        rcases Nat.eq_zero_or_pos m with h0 | h0
        · subst h0
          simp [Lib.keeps] at hk
        · exact h0
      have heq : d[m]! = d[m - 1]! := by
        simp [Lib.keeps] at hk
        exact hk.2
      refine ⟨h1, fun x => ?_, fun x hx j hj hjd => h3 x hx j (by omega) hjd⟩
      rw [h2]
      constructor
      · rintro ⟨i, hi, rfl⟩
        exact ⟨i, by omega, rfl⟩
      · rintro ⟨i, hi, rfl⟩
        rcases Nat.lt_or_ge i m with h | h
        · exact ⟨i, h, rfl⟩
        · obtain rfl : i = m := by omega
          exact ⟨i - 1, by omega, heq.symm⟩
theorem sortL_sorted (l : List ByteArray) : (sortL l).Pairwise (· ≤ ·) := by
  have h := List.pairwise_mergeSort (le := fun x y : List UInt8 => decide (x ≤ y)) (fun a b c h1 h2 => by simp only [decide_eq_true_eq] at *; exact List.le_trans h1 h2) (fun a b => by simp only [Bool.or_eq_true, decide_eq_true_eq]; exact List.le_total a b) (l.map toL)
  exact h.imp (fun h => by simpa using h)
theorem mem_sortL (l : List ByteArray) (x : List UInt8) : x ∈ sortL l ↔ x ∈ l.map toL := (List.mergeSort_perm _ _).mem_iff
theorem compact_laws (d : List (List UInt8)) (h : d.Pairwise (· ≤ ·)) : (Lib.compact d).Pairwise (· < ·) ∧ ∀ x, x ∈ Lib.compact d ↔ x ∈ d := by
  obtain ⟨h1, h2, _⟩ := mem_compactUpTo d.toArray d.length (by simp) (fun i j hij hj => by
    have hj' : j < d.length := by simpa using hj
    have := List.pairwise_iff_getElem.1 h i j (by omega) hj' hij
    simpa [hj', show i < d.length by omega] using this)
  refine ⟨h1, fun x => (h2 x).trans ?_⟩
  constructor
  · rintro ⟨i, hi, rfl⟩
    simp [hi]
  · intro hx
    obtain ⟨i, hi, rfl⟩ := List.getElem_of_mem hx
    exact ⟨i, hi, by simp [hi]⟩
theorem plus_rise (l : List ByteArray) : Rise (plusS l) := by
  unfold plusS Rise
  rw [List.pairwise_map]
  exact (compact_laws _ (sortL_sorted l)).1.imp (fun h => by rw [toL_eq, toL_eq, toL_ofL, toL_ofL]; exact h)
theorem mem_plus (l : List ByteArray) (x : ByteArray) : x ∈ plusS l ↔ x ∈ l := by
  unfold plusS
  rw [List.mem_map]
  constructor
  · rintro ⟨y, hy, rfl⟩
    rw [(compact_laws _ (sortL_sorted l)).2, mem_sortL, List.mem_map] at hy
    obtain ⟨z, hz, rfl⟩ := hy
    exact hz
  · intro hx
    exact ⟨toL x, by rw [(compact_laws _ (sortL_sorted l)).2, mem_sortL, List.mem_map]; exact ⟨x, hx, rfl⟩, rfl⟩
theorem plus_len (l : List ByteArray) : (plusS l).length ≤ l.length := by
  unfold plusS
  rw [List.length_map]
  have := compact_le (sortL l)
  rw [sortL_len] at this
  exact this
theorem plus_of_rise {l : List ByteArray} (h : Rise l) : plusS l = l := rise_ext (plus_rise l) h (mem_plus l)

/-! ### less -/
theorem less_eq {a b : List ByteArray} (hb : Rise b) (hn : b.length ≤ 9223372036854775807) : lessS a b = a.filter (fun x => !inS b x) := by
  unfold lessS
  congr 1
  funext x
  rw [bs_sorted b x hn (sorted_of_rise hb)]
theorem mem_less {a b : List ByteArray} (hb : Rise b) (hn : b.length ≤ 9223372036854775807) (x : ByteArray) : x ∈ lessS a b ↔ x ∈ a ∧ x ∉ b := by
  rw [less_eq hb hn, List.mem_filter]
  constructor
  · rintro ⟨h1, h2⟩
    refine ⟨h1, ?_⟩
    rw [← inS_false_iff]
    simpa using h2
  · rintro ⟨h1, h2⟩
    exact ⟨h1, by rw [(inS_false_iff b x).2 h2]; rfl⟩
theorem less_rise {a b : List ByteArray} (ha : Rise a) : Rise (lessS a b) := List.Pairwise.filter _ ha
theorem less_len (a b : List ByteArray) : (lessS a b).length ≤ a.length := List.length_filter_le _ _
/-- Nothing of a is in b: just if nothing goes. -/
theorem less_all {a b : List ByteArray} (hb : Rise b) (hn : b.length ≤ 9223372036854775807) : (lessS a b).length = a.length ↔ ∀ x ∈ a, x ∉ b := by
  rw [less_eq hb hn, List.length_filter_eq_length_iff]
  constructor
  · intro h x hx
    rw [← inS_false_iff]
    simpa using h x hx
  · intro h x hx
    rw [(inS_false_iff b x).2 (h x hx)]
    rfl
theorem less_none {a b : List ByteArray} (hb : Rise b) (hn : b.length ≤ 9223372036854775807) : (lessS a b).length = 0 ↔ ∀ x ∈ a, x ∈ b := by
  rw [List.length_eq_zero_iff, less_eq hb hn, List.filter_eq_nil_iff]
  constructor
  · intro h x hx
    rw [← inS_iff]
    simpa using h x hx
  · intro h x hx
    rw [(inS_iff b x).2 (h x hx)]
    simp
end Go.Proofs.Ytodonkgheffibaa.PB
