/- The document's own answers that need no list made: rising, DeltaRight, Right, Token: what they answer is what the program's parts answer. -/
import Derived.Test.YtodonkgheffibaaXRx1
import Derived.Test.YtodonkgheffibaaXRx2
import Derived.Test.YtodonkgheffibaaPureC
namespace Go.Proofs.Ytodonkgheffibaa.PR
open Go.RowKit Go.Proofs.Ytodonkgheffibaa.PA Go.Proofs.Ytodonkgheffibaa.PB Go.Proofs.Ytodonkgheffibaa.PC Go.Proofs.Ytodonkgheffibaa.Hand Go.Proofs.Ytodonkgheffibaa.XR Go.Proofs.YtodonkgheffibaaW.PrintWords Go.Proofs.YtodonkgheffibaaW.PrintLast

/-- Element j may stand there. -/
def Step (l : List ByteArray) (j : Nat) : Prop := ∀ h : j < l.length, tokB l[j] = true ∧ (0 < j → (l[j - 1]'(by omega)).toList < l[j].toList)
theorem rise_of_steps {l : List ByteArray} (h : ∀ j, Step l j) : Rise l := by
  refine List.pairwise_iff_getElem.2 ?_
  intro i j hi hj hij
  obtain ⟨d, rfl⟩ : ∃ d, j = i + 1 + d := ⟨j - i - 1, by omega⟩
  clear hij
  induction d with
  | zero => exact ((h (i + 1)) hj).2 (by omega)
  | succ d ih => exact List.lt_trans (ih (by omega)) (((h (i + 1 + (d + 1))) hj).2 (by omega))
theorem steps_iff {l : List ByteArray} : (∀ j, Step l j) ↔ (∀ x ∈ l, tokB x = true) ∧ Rise l := by
  constructor
  · intro h
    refine ⟨fun x hx => ?_, rise_of_steps h⟩
    obtain ⟨i, hi, rfl⟩ := List.mem_iff_getElem.1 hx
    exact (h i hi).1
  · rintro ⟨h1, h2⟩ j hj
    exact ⟨h1 _ (List.getElem_mem hj), fun h0 => List.pairwise_iff_getElem.1 h2 (j - 1) j (by omega) hj (by omega)⟩

theorem tok_iff (s : ByteArray) : (s.size : Int) = 8 ↔ tokB s = true := by
  unfold tokB
  rw [decide_eq_true_eq]
  omega
theorem step_zero {l : List ByteArray} (h : 0 < l.length) : Step l 0 ↔ tokB l[0] = true := ⟨fun k => (k h).1, fun k _ => ⟨k, fun h0 => absurd h0 (by omega)⟩⟩

theorem rising_l0 (l : List ByteArray) (hn : l.length ≤ 9223372036854775807) (d : Nat) : ∀ (K i : Nat), i + d = l.length → d < K → ∃ b, fareboxref08_rising.l0 K l (i : Int) = some b ∧ (b = true ↔ ∀ j, i ≤ j → Step l j) := by
  induction d with
  | zero =>
    intro K i hi hK
    obtain ⟨K, rfl⟩ : ∃ m, K = m + 1 := ⟨K - 1, by omega⟩
    refine ⟨true, ?_, iff_of_true rfl fun j hj h => absurd h (by omega)⟩
    rw [fareboxref08_rising.l0]
    rw [if_neg (by omega)]
  | succ d ih =>
    intro K i hi hK
    obtain ⟨K, rfl⟩ : ∃ m, K = m + 1 := ⟨K - 1, by omega⟩
    have hlt : i < l.length := by omega
    have e2 : wrap64 ((i : Int) + 1) = ((i + 1 : Nat) : Int) := by rw [wrap_ok (n := l.length) (by omega) (by omega) (by omega)]; omega
    obtain ⟨b, hb, hb2⟩ := ih K (i + 1) (by omega) (by omega)
    have hnext : Step l i → (b = true ↔ ∀ j, i ≤ j → Step l j) := fun hs => hb2.trans ⟨fun h j hj => by
      rcases Nat.eq_or_lt_of_le hj with rfl | hj
      · exact hs
      · exact h j hj, fun h j hj => h j (by omega)⟩
    rw [fareboxref08_rising.l0]
    rw [if_pos (by omega), if_pos (by omega), rd_nat l i hlt]
    by_cases h1 : (l[i].size : Int) = 8
    · rw [if_pos h1, e2]
      have h1' := (tok_iff _).1 h1
      by_cases h0 : 0 < i
      · have e3 : wrap64 ((i : Int) - 1) = ((i - 1 : Nat) : Int) := by rw [wrap_ok (n := l.length) (by omega) (by omega) (by omega)]; omega
        rw [if_pos (by omega), e3, if_pos (by omega), if_pos (by omega), rd_nat l (i - 1) (by omega)]
        by_cases h2 : Op.bytesLess (l[i - 1]'(by omega)).toList l[i].toList = true
        · rw [if_pos h2, hb]
          refine ⟨b, rfl, hnext fun _ => ⟨h1', fun _ => ?_⟩⟩
          rw [bytesLess_eq] at h2
          exact of_decide_eq_true h2
        · rw [if_neg h2]
          refine ⟨false, rfl, iff_of_false (by simp) fun h => h2 ?_⟩
          rw [bytesLess_eq]
          exact decide_eq_true ((h i (Nat.le_refl _) hlt).2 h0)
      · rw [if_neg (by omega), hb]
        exact ⟨b, rfl, hnext fun _ => ⟨h1', fun h => absurd h h0⟩⟩
    · rw [if_neg h1]
      exact ⟨false, rfl, iff_of_false (by simp) fun h => h1 ((tok_iff _).2 (h i (Nat.le_refl _) hlt).1)⟩
theorem rising_total (l : List ByteArray) (hn : l.length ≤ 9223372036854775807) {K : Nat} (hK : l.length < K) : fareboxref08_rising.f K l = some (partB l) := by
  unfold fareboxref08_rising.f
  by_cases h : l.length ≤ 1000
  · rw [if_neg (by omega)]
    obtain ⟨b, h1, h2⟩ := rising_l0 l hn l.length K 0 (by omega) hK
    refine h1.trans (congrArg some ?_)
    rw [Bool.eq_iff_iff, h2, part_iff, ← steps_iff]
    exact ⟨fun k => ⟨h, fun j => k j (Nat.zero_le _)⟩, fun k j _ => k.2 j⟩
  · rw [if_pos (by omega)]
    congr 1
    have : partB l ≠ true := fun k => h ((part_iff l).1 k).1
    simpa using this

theorem right_l0 (v : Int) (l : List ByteArray) (hn : l.length ≤ 9223372036854775807) (d : Nat) : ∀ (K i : Nat), i + d = l.length → d < K → ∃ b : Bool, fareboxref13_Right.l0 K (i : Int) v l = some (if b = true then 0 else 131) ∧ (b = true ↔ ∀ j, i ≤ j → Step l j) := by
  induction d with
  | zero =>
    intro K i hi hK
    obtain ⟨K, rfl⟩ : ∃ m, K = m + 1 := ⟨K - 1, by omega⟩
    refine ⟨true, ?_, iff_of_true rfl fun j hj h => absurd h (by omega)⟩
    rw [fareboxref13_Right.l0]
    rw [if_neg (by omega)]
    rfl
  | succ d ih =>
    intro K i hi hK
    obtain ⟨K, rfl⟩ : ∃ m, K = m + 1 := ⟨K - 1, by omega⟩
    have hlt : i < l.length := by omega
    have e2 : wrap64 ((i : Int) + 1) = ((i + 1 : Nat) : Int) := by rw [wrap_ok (n := l.length) (by omega) (by omega) (by omega)]; omega
    obtain ⟨b, hb, hb2⟩ := ih K (i + 1) (by omega) (by omega)
    have hnext : Step l i → (b = true ↔ ∀ j, i ≤ j → Step l j) := fun hs => hb2.trans ⟨fun h j hj => by
      rcases Nat.eq_or_lt_of_le hj with rfl | hj
      · exact hs
      · exact h j hj, fun h j hj => h j (by omega)⟩
    rw [fareboxref13_Right.l0]
    rw [if_pos (by omega), if_pos (by omega), rd_nat l i hlt]
    by_cases h1 : (l[i].size : Int) = 8
    · rw [if_pos h1, e2]
      have h1' := (tok_iff _).1 h1
      by_cases h0 : 0 < i
      · have e3 : wrap64 ((i : Int) - 1) = ((i - 1 : Nat) : Int) := by rw [wrap_ok (n := l.length) (by omega) (by omega) (by omega)]; omega
        rw [if_pos (by omega), e3, if_pos (by omega), if_pos (by omega), rd_nat l (i - 1) (by omega)]
        by_cases h2 : Op.bytesLess (l[i - 1]'(by omega)).toList l[i].toList = true
        · rw [if_pos h2, hb]
          refine ⟨b, rfl, hnext fun _ => ⟨h1', fun _ => ?_⟩⟩
          rw [bytesLess_eq] at h2
          exact of_decide_eq_true h2
        · rw [if_neg h2]
          refine ⟨false, rfl, iff_of_false (by simp) fun h => h2 ?_⟩
          rw [bytesLess_eq]
          exact decide_eq_true ((h i (Nat.le_refl _) hlt).2 h0)
      · rw [if_neg (by omega), hb]
        exact ⟨b, rfl, hnext fun _ => ⟨h1', fun h => absurd h h0⟩⟩
    · rw [if_neg h1]
      exact ⟨false, rfl, iff_of_false (by simp) fun h => h1 ((tok_iff _).2 (h i (Nat.le_refl _) hlt).1)⟩
theorem right_j0 (v : Int) (l : List ByteArray) (hn : l.length ≤ 9223372036854775807) (b : Bool) {K : Nat} (hK : l.length < K) : fareboxref13_Right.j0 (K + 1) b v l = some (if b = true then 130 else if 1000 < l.length then 2 else if listB l = true then 0 else 131) := by
  rw [fareboxref13_Right.j0]
  by_cases hb : b = true
  · rw [if_pos hb, if_pos hb]
  · rw [if_neg hb, if_neg hb]
    by_cases h : 1000 < l.length
    · rw [if_pos (by omega), if_pos h]
    · rw [if_neg (by omega), if_neg h]
      obtain ⟨c, h1, h2⟩ := right_l0 v l hn l.length K 0 (by omega) hK
      refine h1.trans (congrArg some ?_)
      have : c = true ↔ listB l = true := by
        rw [h2, list_iff, ← steps_iff]
        exact ⟨fun k j => k j (Nat.zero_le _), fun k j _ => k j⟩
      by_cases hc : c = true
      · rw [if_pos hc, if_pos (this.1 hc)]
      · rw [if_neg hc, if_neg (fun k => hc (this.2 k))]
theorem right_total (v : Int) (l : List ByteArray) (hn : l.length ≤ 9223372036854775807) {K : Nat} (hK : l.length + 1 < K) : fareboxref13_Right.f K v l = some (rightS v l) := by
  obtain ⟨K, rfl⟩ : ∃ m, K = m + 1 := ⟨K - 1, by omega⟩
  have hj := fun b => right_j0 v l hn b (K := K) (by omega)
  have hp := fun b => PC.right_j0 b v l 0
  rw [← PC.right_total v l 0]
  unfold fareboxref13_Right.f XB.risk_Right.f
  by_cases h1 : v < 0
  · rw [if_pos h1, if_pos h1, hj, hp]
  · rw [if_neg h1, if_neg h1]
    by_cases h2 : v = 0
    · rw [if_pos h2, if_pos h2, hj, hp]
    · rw [if_neg h2, if_neg h2, hj, hp]

theorem delta_l1 (v : Int) (a g : List ByteArray) (ha : a.length ≤ 9223372036854775807) (hg : g.length ≤ 9223372036854775807) (i : Nat) (hi : i < a.length) (d : Nat) : ∀ (K j : Nat), j + d = g.length → d < K →
    (a[i] ∈ g.drop j ∧ fareboxref08_DeltaRight.l1 K (i : Int) (j : Int) v a g = some false) ∨ (a[i] ∉ g.drop j ∧ fareboxref08_DeltaRight.l1 K (i : Int) (j : Int) v a g = fareboxref08_DeltaRight.l0 (K - d - 1) ((i + 1 : Nat) : Int) v a g) := by
  induction d with
  | zero =>
    intro K j hj hK
    obtain ⟨K, rfl⟩ : ∃ m, K = m + 1 := ⟨K - 1, by omega⟩
    refine .inr ⟨by rw [List.drop_eq_nil_of_le (by omega)]; simp, ?_⟩
    have e2 : wrap64 ((i : Int) + 1) = ((i + 1 : Nat) : Int) := by rw [wrap_ok (n := a.length) (by omega) (by omega) (by omega)]; omega
    rw [fareboxref08_DeltaRight.l1]
    rw [if_neg (by omega), e2]
    rfl
  | succ d ih =>
    intro K j hj hK
    obtain ⟨K, rfl⟩ : ∃ m, K = m + 1 := ⟨K - 1, by omega⟩
    have hlt : j < g.length := by omega
    have e2 : wrap64 ((j : Int) + 1) = ((j + 1 : Nat) : Int) := by rw [wrap_ok (n := g.length) (by omega) (by omega) (by omega)]; omega
    rw [List.drop_eq_getElem_cons hlt, fareboxref08_DeltaRight.l1]
    rw [if_pos (by omega), if_pos (by omega), if_pos (by omega), if_pos (by omega), rd_nat a i hi, rd_nat g j hlt, e2]
    by_cases h : a[i].toList = g[j].toList
    · rw [if_pos h]
      exact .inl ⟨by rw [toList_inj.1 h]; exact List.mem_cons_self, rfl⟩
    · rw [if_neg h, show K + 1 - (d + 1) - 1 = K - d - 1 by omega]
      have hne : a[i] ≠ g[j] := fun e => h (by rw [e])
      rcases ih K (j + 1) (by omega) (by omega) with ⟨h1, h2⟩ | ⟨h1, h2⟩
      · exact .inl ⟨List.mem_cons_of_mem _ h1, h2⟩
      · exact .inr ⟨fun hm => by
          rcases List.mem_cons.1 hm with e | hm
          · exact hne e
          · exact h1 hm, h2⟩
theorem delta_l0 (v : Int) (a g : List ByteArray) (ha : a.length ≤ 9223372036854775807) (hg : g.length ≤ 9223372036854775807) (d : Nat) : ∀ (K i : Nat), i + d = a.length → d * (g.length + 2) < K →
    ∃ b, fareboxref08_DeltaRight.l0 K (i : Int) v a g = some b ∧ (b = true ↔ ∀ x ∈ a.drop i, x ∉ g) := by
  induction d with
  | zero =>
    intro K i hi hK
    obtain ⟨K, rfl⟩ : ∃ m, K = m + 1 := ⟨K - 1, by omega⟩
    refine ⟨true, ?_, iff_of_true rfl fun x hx => by rw [List.drop_eq_nil_of_le (by omega)] at hx; cases hx⟩
    rw [fareboxref08_DeltaRight.l0]
    rw [if_neg (by omega)]
  | succ d ih =>
    intro K i hi hK
    obtain ⟨K, rfl⟩ : ∃ m, K = m + 1 := ⟨K - 1, by omega⟩
    have hlt : i < a.length := by omega
    have hmul : (d + 1) * (g.length + 2) = d * (g.length + 2) + (g.length + 2) := Nat.succ_mul _ _
    rw [fareboxref08_DeltaRight.l0, List.drop_eq_getElem_cons hlt]
    rw [if_pos (by omega)]
    rcases delta_l1 v a g ha hg i hlt g.length K 0 (by omega) (by omega) with ⟨h1, h2⟩ | ⟨h1, h2⟩
    · refine ⟨false, h2, iff_of_false (by simp) fun h => h _ List.mem_cons_self (by simpa using h1)⟩
    · obtain ⟨b, h3, h4⟩ := ih (K - g.length - 1) (i + 1) (by omega) (by omega)
      refine ⟨b, h2.trans h3, h4.trans ⟨fun h x hx => ?_, fun h x hx => h x (List.mem_cons_of_mem _ hx)⟩⟩
      rcases List.mem_cons.1 hx with rfl | hx
      · simpa using h1
      · exact h x hx
theorem delta_total (v : Int) (a g : List ByteArray) (ha : a.length ≤ 9223372036854775807) (hg : g.length ≤ 9223372036854775807) {K : Nat} (hK : a.length * (g.length + 2) + a.length + g.length + 2 < K) : fareboxref08_DeltaRight.f K v a g = some (mayB v a g) := by
  unfold fareboxref08_DeltaRight.f
  rw [rising_total a ha (by omega), rising_total g hg (by omega)]
  obtain ⟨K, rfl⟩ : ∃ m, K = m + 1 := ⟨K - 1, by omega⟩
  simp only [Option.bind_some]
  cases h1 : partB a
  · rw [if_neg (by simp), fareboxref08_DeltaRight.j0, may_no0 h1]
    rw [if_pos rfl]
  · rw [if_pos rfl]
    cases h2 : partB g
    · rw [if_neg (by simp), fareboxref08_DeltaRight.j0, may_no1 h2]
      rw [if_pos rfl]
    · rw [if_pos rfl, fareboxref08_DeltaRight.j0]
      by_cases h3 : v < 1
      · rw [if_pos (by simpa using h3)]
        have : decide (1 ≤ v) = false := by simp; omega
        simp [mayB, this]
      · rw [if_neg (by simpa using h3)]
        have h3' : decide (1 ≤ v) = true := by simp; omega
        obtain ⟨b, h4, h5⟩ := delta_l0 v a g ha hg a.length K 0 (by omega) (by omega)
        refine h4.trans (congrArg some ?_)
        unfold mayB
        rw [h1, h2, h3', Bool.eq_iff_iff, h5]
        simp only [Bool.true_and, beq_iff_eq, List.drop_zero]
        exact (less_all ((part_iff g).1 h2).2.2 hg).symm
end Go.Proofs.Ytodonkgheffibaa.PR
