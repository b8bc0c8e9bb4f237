/- A delta leads just there: what the statement RiskThere computes is true, for every list, tokens and text. -/
import Derived.Test.YtodonkgheffibaaXCx2
namespace Go.Proofs.Ytodonkgheffibaa.PD
open Go.RowKit Go.Proofs.Ytodonkgheffibaa.PA Go.Proofs.Ytodonkgheffibaa.PB Go.Proofs.Ytodonkgheffibaa.PC Go.Proofs.Ytodonkgheffibaa.Hand Go.Proofs.Ytodonkgheffibaa.XC Go.Proofs.YtodonkgheffibaaW.PrintWords Go.Proofs.YtodonkgheffibaaW.PrintLast

theorem in_plus (want : List ByteArray) (x : ByteArray) : inS (plusS want) x = inS want x := by
  rw [Bool.eq_iff_iff, inS_iff, inS_iff, mem_plus]

section
variable {v : Int} {l want : List ByteArray} (other : ByteArray)
theorem j4_true (h : Led v l want) (hv : v ≤ 9223372036854775807) (hl : l.length * 16 ≤ 281474976710656) (K : Nat) :
    fareboxlaw13_RiskThere.j4 (K + 1) (inS want other) (inS (plusS want) other) ((inS (plusS want) other != inS want other) || (v + 1 == 9223372036854775807)) v l (v + 1) (lessS (plusS want) l) (lessS l (plusS want)) (v + 1) (plusS want) = some true := by
  simp only [fareboxlaw13_RiskThere.j4]
  rw [in_plus]
  have hne := h.vmax
  by_cases h2 : v + 1 = 9223372036854775807
  · rw [if_pos (show ((inS want other != inS want other) || (v + 1 == 9223372036854775807)) = true by simp [h2])]
    simp
  · rw [if_neg (show ¬ ((inS want other != inS want other) || (v + 1 == 9223372036854775807)) = true by simp [h2])]
    unfold risk_Diff.f
    rw [if_pos (show v + 1 ≤ 9223372036854775807 ∧ l.length * 16 ≤ 281474976710656 from ⟨by omega, hl⟩), led_back h h2]
    unfold fareboxref13_SameTokens.f
    simp only [Option.bind_some]
    rw [(sameS_iff (lessS l (plusS want)) (lessS l (plusS want))).2 rfl, (sameS_iff (lessS (plusS want) l) (lessS (plusS want) l)).2 rfl]
    simp
theorem l1_true (h : Led v l want) (hv : v ≤ 9223372036854775807) (hl : l.length * 16 ≤ 281474976710656) (hn : want.length ≤ 9223372036854775807) (d : Nat) : ∀ (K i : Nat) (b : Bool), i + d = want.length → (b || inS (want.drop i) other) = inS want other → d + 1 < K →
    fareboxlaw13_RiskThere.l1 K want other b (i : Int) v l (v + 1) (lessS (plusS want) l) (lessS l (plusS want)) (v + 1) (plusS want) = some true := by
  induction d with
  | zero =>
    intro K i b hi hb hK
    obtain ⟨K, rfl⟩ : ∃ m, K = m + 1 + 1 := ⟨K - 2, by omega⟩
    rw [List.drop_eq_nil_of_le (by omega)] at hb
    have hb' : b = inS want other := by simpa [inS] using hb
    rw [fareboxlaw13_RiskThere.l1]
    rw [if_neg (by omega)]
    unfold risk_Has.f
    simp only [Option.bind_some]
    rw [hb']
    have := j4_true other h hv hl K
    by_cases hq : (inS (plusS want) other != inS want other) = true
    · rw [if_pos hq]
      rw [hq, Bool.true_or] at this
      exact this
    · rw [if_neg hq]
      rw [Bool.eq_false_iff.2 hq, Bool.false_or] at this
      exact this
  | succ d ih =>
    intro K i b hi hb hK
    obtain ⟨K, rfl⟩ : ∃ m, K = m + 1 := ⟨K - 1, by omega⟩
    have hlt : i < want.length := by omega
    have e2 : wrap64 ((i : Int) + 1) = ((i + 1 : Nat) : Int) := by rw [wrap_ok (n := want.length) (by omega) (by omega) (by omega)]; omega
    rw [List.drop_eq_getElem_cons hlt] at hb
    rw [fareboxlaw13_RiskThere.l1]
    rw [if_pos (by omega), e2]
    by_cases hbt : b = true
    · rw [if_pos hbt]
      exact ih K (i + 1) true (by omega) (by rw [hbt, Bool.true_or] at hb; rw [← hb, Bool.true_or]) (by omega)
    · rw [if_neg hbt, if_pos (by omega), rd_nat want i hlt]
      refine ih K (i + 1) _ (by omega) ?_ (by omega)
      rw [Bool.eq_false_iff.2 hbt, Bool.false_or] at hb
      rw [← hb]
      simp only [inS, List.any_cons]
theorem l0_true (h : Led v l want) (hv : v ≤ 9223372036854775807) (hl : l.length * 16 ≤ 281474976710656) (hn : want.length ≤ 9223372036854775807) (d : Nat) : ∀ (K i : Nat), i + d = want.length → d + want.length + 2 < K →
    fareboxlaw13_RiskThere.l0 K want other (i : Int) v l (v + 1) (lessS (plusS want) l) (lessS l (plusS want)) (v + 1) (plusS want) = some true := by
  induction d with
  | zero =>
    intro K i hi hK
    obtain ⟨K, rfl⟩ : ∃ m, K = m + 1 := ⟨K - 1, by omega⟩
    rw [fareboxlaw13_RiskThere.l0]
    rw [if_neg (by omega)]
    exact l1_true other h hv hl hn want.length K 0 false (by omega) (by simp) (by omega)
  | succ d ih =>
    intro K i hi hK
    obtain ⟨K, rfl⟩ : ∃ m, K = m + 1 := ⟨K - 1, by omega⟩
    have hlt : i < want.length := by omega
    have e2 : wrap64 ((i : Int) + 1) = ((i + 1 : Nat) : Int) := by rw [wrap_ok (n := want.length) (by omega) (by omega) (by omega)]; omega
    rw [fareboxlaw13_RiskThere.l0]
    rw [if_pos (by omega), e2, if_pos (by omega), rd_nat want i hlt]
    unfold risk_Has.f
    simp only [Option.bind_some]
    rw [if_pos (by rw [in_plus, inS_iff]; exact List.getElem_mem _)]
    exact ih K (i + 1) (by omega) (by omega)
end

theorem there_true (v : Int) (l want : List ByteArray) (other : ByteArray) (hv : v ≤ 9223372036854775807) (hl : l.length * 16 ≤ 140737488351232) (hw : want.length * 16 ≤ 140737488351232) :
    ∃ K, fareboxlaw13_RiskThere.f K v l want other = some true := by
  refine ⟨want.length + want.length + 10, ?_⟩
  unfold fareboxlaw13_RiskThere.f fareboxlaw13_awake.f risk_Diff.f
  simp only [Option.bind_some, if_true]
  rw [if_pos (show v ≤ 9223372036854775807 ∧ want.length * 16 ≤ 281474976710656 from ⟨hv, by omega⟩)]
  simp only [Option.bind_some]
  by_cases h : (diffS v l want).2.2.2 = 0
  · obtain ⟨hL, he⟩ := diff_ok h
    rw [he]
    have hv0 := hL.good.v0
    have hne := hL.vmax
    rw [show want.length + want.length + 10 = (want.length + want.length + 8) + 1 + 1 from by omega, fareboxlaw13_RiskThere.j0]
    rw [if_neg (show ¬ ((((v + 1, lessS (plusS want) l, lessS l (plusS want), (0 : Int)) : Int × List ByteArray × List ByteArray × Int).2.2.2 != 0) = true) by simp)]
    unfold risk_Apply.f
    have hal : (lessS (plusS want) l).length ≤ 8796093022208 := by have := less_len (plusS want) l; have := hL.few; omega
    rw [if_pos (show v + 1 ≤ 9223372036854775807 ∧ (lessS (plusS want) l).length ≤ 8796093022208 from ⟨by omega, hal⟩), led_apply hL]
    unfold risk_Right.f
    simp only [Option.bind_some]
    rw [good_iff.2 (led_good hL)]
    rw [if_pos rfl]
    simp only [if_true]
    rw [show wrap64 (v + 1 - 1) = v from by unfold wrap64; omega]
    rw [fareboxlaw13_RiskThere.j1]
    rw [if_neg (by simp)]
    exact l0_true other hL hv (by omega) (by omega) want.length _ 0 (by omega) (by omega)
  · obtain ⟨h1, h2, h3⟩ := diff_no h
    rw [h1, h2, h3]
    rw [show want.length + want.length + 10 = (want.length + want.length + 9) + 1 from by omega, fareboxlaw13_RiskThere.j0]
    rw [if_pos (show ((diffS v l want).2.2.2 != 0) = true by simpa using h), if_pos rfl, if_pos rfl]
    simp [wrap64]
end Go.Proofs.Ytodonkgheffibaa.PD
