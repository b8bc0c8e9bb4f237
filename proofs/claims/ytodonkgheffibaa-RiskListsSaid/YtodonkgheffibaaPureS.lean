/- The document's Apply answers what the program's does. -/
import Derived.Test.YtodonkgheffibaaXSx1
namespace Go.Proofs.Ytodonkgheffibaa.PS
open Go.RowKit Go.Proofs.Ytodonkgheffibaa.PA Go.Proofs.Ytodonkgheffibaa.PB Go.Proofs.Ytodonkgheffibaa.PC Go.Proofs.Ytodonkgheffibaa.Hand Go.Proofs.Ytodonkgheffibaa.XS Go.Proofs.YtodonkgheffibaaW.PrintWords

theorem mem_put (l : List ByteArray) (x z : ByteArray) : z ∈ putS l x ↔ z ∈ l ∨ z = x := by
  induction l with
  | nil => simp [putS]
  | cons y r ih =>
    unfold putS
    by_cases h1 : Op.bytesLess y.toList x.toList = true
    · rw [if_pos h1, List.mem_cons, ih, List.mem_cons, or_assoc]
    · rw [if_neg h1]
      by_cases h2 : y.toList = x.toList
      · rw [if_pos h2, List.mem_cons, toList_inj.1 h2]
        constructor
        · intro h; exact .inl h
        · rintro (h | h)
          · exact h
          · exact .inl h
      · rw [if_neg h2]
        simp only [List.mem_cons]
        constructor
        · rintro (h | h)
          · exact .inr h
          · exact .inl h
        · rintro (h | h)
          · exact .inr h
          · exact .inl h
theorem put_rise {l : List ByteArray} (x : ByteArray) (h : Rise l) : Rise (putS l x) := by
  induction l with
  | nil => simp [putS, Rise]
  | cons y r ih =>
    obtain ⟨hy, hr⟩ := List.pairwise_cons.1 h
    unfold putS
    by_cases h1 : Op.bytesLess y.toList x.toList = true
    · rw [if_pos h1]
      refine List.pairwise_cons.2 ⟨fun z hz => ?_, ih hr⟩
      rcases (mem_put r x z).1 hz with hz | rfl
      · exact hy z hz
      · rw [bytesLess_eq] at h1
        exact of_decide_eq_true h1
    · rw [if_neg h1]
      by_cases h2 : y.toList = x.toList
      · rw [if_pos h2]
        exact h
      · rw [if_neg h2]
        have hx : x.toList < y.toList := Classical.byContradiction fun h3 => h2 (List.le_antisymm h3 (fun h4 => h1 (by rw [bytesLess_eq]; exact decide_eq_true h4)))
        refine List.pairwise_cons.2 ⟨fun z hz => ?_, h⟩
        rcases List.mem_cons.1 hz with rfl | hz
        · exact hx
        · exact List.lt_trans hx (hy z hz)
theorem mem_putAll (a : List ByteArray) : ∀ (o : List ByteArray) (z : ByteArray), z ∈ putAll o a ↔ z ∈ o ∨ z ∈ a := by
  induction a with
  | nil => intro o z; simp [putAll]
  | cons x r ih =>
    intro o z
    show z ∈ putAll (putS o x) r ↔ _
    rw [ih, mem_put, List.mem_cons, or_assoc]
theorem putAll_rise (a : List ByteArray) : ∀ {o : List ByteArray}, Rise o → Rise (putAll o a) := by
  induction a with
  | nil => intro o h; exact h
  | cons x r ih => intro o h; exact ih (put_rise x h)
theorem without_rise (a b : List ByteArray) : Rise (withoutS a b) := putAll_rise _ (by simp [Rise])
theorem mem_without (a b : List ByteArray) (z : ByteArray) : z ∈ withoutS a b ↔ z ∈ a ∧ z ∉ b := by
  unfold withoutS
  rw [mem_putAll, List.mem_filter]
  simp only [List.not_mem_nil, false_or, Bool.not_eq_true', inS_false_iff]
theorem without_eq {a b : List ByteArray} (ha : Rise a) (hb : Rise b) (hn : b.length ≤ 9223372036854775807) : withoutS a b = lessS a b :=
  rise_ext (without_rise a b) (less_rise ha) fun x => by rw [mem_without, mem_less hb hn]
theorem putAll_plus {o a : List ByteArray} (ho : Rise o) : putAll o a = plusS (o ++ a) :=
  rise_ext (putAll_rise a ho) (plus_rise _) fun x => by rw [mem_putAll, mem_plus, List.mem_append]

section
variable (v : Int) (l : List ByteArray) (dv : Int) (a g : List ByteArray)
theorem apply_l2 (ha : a.length ≤ 1000) (d : Nat) : ∀ (K i : Nat) (o : List ByteArray), i + d = a.length → d < K → o.length ≤ 1000 + i →
    fareboxref13_Apply.l2 K o (i : Int) dv a g = some (if 1000 < (putAll o (a.drop i)).length then (0, [], 2) else (dv, putAll o (a.drop i), 0)) := by
  induction d with
  | zero =>
    intro K i o hi hK ho
    obtain ⟨K, rfl⟩ : ∃ m, K = m + 1 := ⟨K - 1, by omega⟩
    rw [fareboxref13_Apply.l2, List.drop_eq_nil_of_le (by omega)]
    rw [if_neg (by omega)]
    show _ = some (if 1000 < o.length then (0, [], 2) else (dv, o, 0))
    by_cases h : 1000 < o.length
    · rw [if_pos (by omega), if_pos h]
    · rw [if_neg (by omega), if_neg h]
  | succ d ih =>
    intro K i o hi hK ho
    obtain ⟨K, rfl⟩ : ∃ m, K = m + 1 := ⟨K - 1, by omega⟩
    have hlt : i < a.length := by omega
    have e2 : wrap64 ((i : Int) + 1) = ((i + 1 : Nat) : Int) := by rw [wrap_ok (n := a.length) (by omega) (by omega) (by omega)]; omega
    rw [fareboxref13_Apply.l2, List.drop_eq_getElem_cons hlt]
    rw [if_pos (by omega), if_pos (by omega), rd_nat a i hlt, e2]
    unfold fareboxref13_put.f
    rw [if_pos (by omega)]
    simp only [Option.bind_some]
    have hp := putS_len o a[i]
    exact ih K (i + 1) (putS o a[i]) (by omega) (by omega) (by omega)
open Classical in
theorem apply_l1 (hl : l.length ≤ 1000) (ha : a.length ≤ 1000) (hg : g.length ≤ 1000) (d : Nat) : ∀ (K i : Nat), i + d = g.length → d + a.length + 1 < K →
    fareboxref13_Apply.l1 K (i : Int) v l dv a g = some (if ∀ x ∈ g.drop i, x ∈ l then (if 1000 < (putAll (withoutS l g) a).length then (0, [], 2) else (dv, putAll (withoutS l g) a, 0)) else (0, [], 131)) := by
  induction d with
  | zero =>
    intro K i hi hK
    obtain ⟨K, rfl⟩ : ∃ m, K = m + 1 := ⟨K - 1, by omega⟩
    rw [fareboxref13_Apply.l1, List.drop_eq_nil_of_le (by omega)]
    rw [if_neg (by omega), if_pos (by simp)]
    unfold fareboxref13_without.f
    rw [if_pos (by omega)]
    simp only [Option.bind_some]
    have hw : (withoutS l g).length ≤ 1000 := by
      have h1 := putAll_len [] (l.filter (fun x => !inS g x))
      have h2 := List.length_filter_le (fun x => !inS g x) l
      unfold withoutS
      simp at h1
      omega
    exact apply_l2 dv a g ha a.length K 0 _ (by omega) (by omega) (by omega)
  | succ d ih =>
    intro K i hi hK
    obtain ⟨K, rfl⟩ : ∃ m, K = m + 1 := ⟨K - 1, by omega⟩
    have hlt : i < g.length := by omega
    have e2 : wrap64 ((i : Int) + 1) = ((i + 1 : Nat) : Int) := by rw [wrap_ok (n := g.length) (by omega) (by omega) (by omega)]; omega
    rw [fareboxref13_Apply.l1, List.drop_eq_getElem_cons hlt]
    rw [if_pos (by omega), if_pos (by omega), rd_nat g i hlt, e2]
    unfold fareboxref13_in.f
    simp only [Option.bind_some]
    by_cases h : g[i] ∈ l
    · rw [if_pos ((inS_iff _ _).2 h), ih K (i + 1) (by omega) (by omega)]
      simp only [List.forall_mem_cons, h, true_and]
    · rw [if_neg (by rw [inS_iff]; exact h), if_neg (fun k => h (k _ List.mem_cons_self))]
open Classical in
theorem apply_l0 (hl : l.length ≤ 1000) (ha : a.length ≤ 1000) (hg : g.length ≤ 1000) (d : Nat) : ∀ (K i : Nat), i + d = a.length → d + g.length + a.length + 2 < K →
    fareboxref13_Apply.l0 K (i : Int) v l dv a g = some (if ∀ x ∈ a.drop i, x ∉ l then (if ∀ x ∈ g, x ∈ l then (if 1000 < (putAll (withoutS l g) a).length then (0, [], 2) else (dv, putAll (withoutS l g) a, 0)) else (0, [], 131)) else (0, [], 131)) := by
  induction d with
  | zero =>
    intro K i hi hK
    obtain ⟨K, rfl⟩ : ∃ m, K = m + 1 := ⟨K - 1, by omega⟩
    rw [fareboxref13_Apply.l0, List.drop_eq_nil_of_le (by omega)]
    rw [if_neg (by omega), if_pos (show ∀ x ∈ ([] : List ByteArray), x ∉ l by simp)]
    exact apply_l1 v l dv a g hl ha hg g.length K 0 (by omega) (by omega)
  | succ d ih =>
    intro K i hi hK
    obtain ⟨K, rfl⟩ : ∃ m, K = m + 1 := ⟨K - 1, by omega⟩
    have hlt : i < a.length := by omega
    have e2 : wrap64 ((i : Int) + 1) = ((i + 1 : Nat) : Int) := by rw [wrap_ok (n := a.length) (by omega) (by omega) (by omega)]; omega
    rw [fareboxref13_Apply.l0, List.drop_eq_getElem_cons hlt]
    rw [if_pos (by omega), if_pos (by omega), rd_nat a i hlt, e2]
    unfold fareboxref13_in.f
    simp only [Option.bind_some]
    by_cases h : a[i] ∈ l
    · rw [if_pos ((inS_iff _ _).2 h), if_neg (fun k => k _ List.mem_cons_self h)]
    · rw [if_neg (by rw [inS_iff]; exact h), ih K (i + 1) (by omega) (by omega)]
      simp only [List.forall_mem_cons, h, not_false_eq_true, true_and]
theorem apply_total (hdv : dv ≤ 9223372036854775807) {K : Nat} (hK : a.length + g.length + a.length + 2 < K) : fareboxref13_Apply.f K v l dv a g = some (applyS v l dv a g) := by
  unfold fareboxref13_Apply.f fareboxref13_Right.f fareboxref08_DeltaRight.f applyS
  simp only [Option.bind_some]
  by_cases h1 : rightS v l = 0
  · rw [if_pos h1, if_pos h1]
    by_cases h2 : mayB dv a g = true
    · rw [if_pos h2, if_pos h2]
      obtain ⟨hd1, hpa, hpg, _⟩ := may_one h2
      obtain ⟨q1, q2, q3⟩ := (part_iff a).1 hpa
      obtain ⟨q4, q5, q6⟩ := (part_iff g).1 hpg
      have hG := good_iff.1 h1
      have hw : wrap64 (dv - 1) = dv - 1 := by unfold wrap64; omega
      rw [hw]
      by_cases h3 : dv - 1 = v
      · rw [if_pos h3, if_pos h3]
        refine (apply_l0 v l dv a g hG.len q1 q4 a.length K 0 (by omega) (by omega)).trans (congrArg some ?_)
        rw [List.drop_zero, without_eq hG.rise q6 (by omega), putAll_plus (less_rise hG.rise)]
        have e1 := less_all (a := a) hG.rise hG.small
        have e2 := less_none (a := g) hG.rise hG.small
        have l1 := less_len a l
        by_cases c1 : ∀ x ∈ a, x ∉ l
        · have k1 := e1.2 c1
          rw [if_pos c1]
          by_cases c2 : ∀ x ∈ g, x ∈ l
          · have k2 := e2.2 c2
            rw [if_pos c2, if_neg (show ¬ ((lessS a l).length < a.length ∨ 0 < (lessS g l).length) by omega)]
          · have k2 : (lessS g l).length ≠ 0 := fun k => c2 (e2.1 k)
            rw [if_neg c2, if_pos (show ((lessS a l).length < a.length ∨ 0 < (lessS g l).length) by omega)]
        · have k1 : (lessS a l).length ≠ a.length := fun k => c1 (e1.1 k)
          rw [if_neg c1, if_pos (show ((lessS a l).length < a.length ∨ 0 < (lessS g l).length) by omega)]
      · rw [if_neg h3, if_neg h3]
    · rw [if_neg h2, if_neg h2]
  · rw [if_neg h1, if_neg h1]
end
end Go.Proofs.Ytodonkgheffibaa.PS
