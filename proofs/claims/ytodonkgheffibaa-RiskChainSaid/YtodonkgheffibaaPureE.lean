/- A chain of deltas keeps two copies alike: what the statement RiskChain computes is true, for every list of lists of tokens. -/
import Derived.Test.YtodonkgheffibaaXCx4
namespace Go.Proofs.Ytodonkgheffibaa.PE
open Go.RowKit Go.Proofs.Ytodonkgheffibaa.PA Go.Proofs.Ytodonkgheffibaa.PB Go.Proofs.Ytodonkgheffibaa.PC Go.Proofs.Ytodonkgheffibaa.Hand Go.Proofs.Ytodonkgheffibaa.XC Go.Proofs.YtodonkgheffibaaW.PrintWords Go.Proofs.YtodonkgheffibaaW.PrintLast

theorem rd3_nat (s : List (List ByteArray)) (k : Nat) (h : k < s.length) : rd_L3 s (k : Int) = s[k] := by simp [rd_L3, List.getD_eq_getElem?_getD, h]

section
variable (s : List (List ByteArray)) (hs : s.length ≤ 9223372036854775807) (hw : ∀ x ∈ s, x.length * 16 ≤ 140737488351232)
include hs hw
theorem l1_true {v : Int} {m : List ByteArray} {i K0 : Nat} (hi : i < s.length) (hin : ∀ x ∈ s[i], inS m x = true) (hn : ∀ K, K0 ≤ K → fareboxlaw13_RiskChain.l0 K s true ((i + 1 : Nat) : Int) v m v m = some true) (d : Nat) :
    ∀ (K j : Nat), j + d = s[i].length → K0 + d + 1 ≤ K → fareboxlaw13_RiskChain.l1 K s true (i : Int) (j : Int) v m v m = some true := by
  have hlen : s[i].length * 16 ≤ 140737488351232 := hw _ (List.getElem_mem hi)
  have e3 : wrap64 ((i : Int) + 1) = ((i + 1 : Nat) : Int) := by rw [wrap_ok (n := s.length) (by omega) (by omega) (by omega)]; omega
  induction d with
  | zero =>
    intro K j hj hK
    obtain ⟨K, rfl⟩ : ∃ m, K = m + 1 := ⟨K - 1, by omega⟩
    rw [fareboxlaw13_RiskChain.l1]
    rw [if_pos (by omega), if_pos (by omega), rd3_nat s i hi, if_neg (by omega), e3]
    exact hn K (by omega)
  | succ d ih =>
    intro K j hj hK
    obtain ⟨K, rfl⟩ : ∃ m, K = m + 1 := ⟨K - 1, by omega⟩
    have hlt : j < s[i].length := by omega
    have e2 : wrap64 ((j : Int) + 1) = ((j + 1 : Nat) : Int) := by rw [wrap_ok (n := s[i].length) (by omega) (by omega) (by omega)]; omega
    rw [fareboxlaw13_RiskChain.l1]
    rw [if_pos (by omega), if_pos (by omega), rd3_nat s i hi, if_pos (by omega), if_pos (by omega), rd_nat s[i] j hlt, e2]
    unfold risk_Has.f
    simp only [Option.bind_some]
    rw [if_pos (hin _ (List.getElem_mem hlt))]
    exact ih K (j + 1) (by omega) (by omega)

theorem l0_true (d : Nat) : ∀ (i : Nat) (v : Int) (l : List ByteArray), i + d = s.length → v ≤ 9223372036854775807 → ∃ K0, ∀ K, K0 ≤ K → fareboxlaw13_RiskChain.l0 K s true (i : Int) v l v l = some true := by
  induction d with
  | zero =>
    intro i v l hi hv
    refine ⟨2, fun K hK => ?_⟩
    obtain ⟨K, rfl⟩ : ∃ m, K = m + 1 + 1 := ⟨K - 2, by omega⟩
    rw [fareboxlaw13_RiskChain.l0]
    rw [if_neg (by omega), fareboxlaw13_RiskChain.j1]
    rw [if_neg (by simp)]
  | succ d ih =>
    intro i v l hi hv
    have hlt : i < s.length := by omega
    have hlen : s[i].length * 16 ≤ 140737488351232 := hw _ (List.getElem_mem hlt)
    have e3 : wrap64 ((i : Int) + 1) = ((i + 1 : Nat) : Int) := by rw [wrap_ok (n := s.length) (by omega) (by omega) (by omega)]; omega
    by_cases h40 : (i : Int) < 40
    · by_cases h : (diffS v l s[i]).2.2.2 = 0
      · obtain ⟨hL, he⟩ := diff_ok h
        have hne := hL.vmax
        obtain ⟨K0, h0⟩ := ih (i + 1) (v + 1) (plusS s[i]) (by omega) (by omega)
        refine ⟨K0 + s[i].length + 5, fun K hK => ?_⟩
        obtain ⟨K, rfl⟩ : ∃ m, K = m + 1 + 1 + 1 := ⟨K - 3, by omega⟩
        rw [fareboxlaw13_RiskChain.l0]
        rw [if_pos (by omega), fareboxlaw13_RiskChain.j1]
        rw [if_pos (by simpa using h40), if_pos (by omega), if_pos (by omega), rd3_nat s i hlt]
        unfold risk_Diff.f
        rw [if_pos (show v ≤ 9223372036854775807 ∧ s[i].length * 16 ≤ 281474976710656 from ⟨hv, by omega⟩), he]
        simp only [Option.bind_some]
        rw [if_pos trivial]
        unfold risk_Apply.f
        have hal : (lessS (plusS s[i]) l).length ≤ 8796093022208 := by have := less_len (plusS s[i]) l; have := hL.few; omega
        rw [if_pos (show v + 1 ≤ 9223372036854775807 ∧ (lessS (plusS s[i]) l).length ≤ 8796093022208 from ⟨by omega, hal⟩), led_apply hL]
        unfold fareboxref13_SameList.f
        simp only [Option.bind_some]
        rw [(sameS_iff (plusS s[i]) (plusS s[i])).2 rfl]
        rw [if_pos trivial, if_pos trivial, fareboxlaw13_RiskChain.j2]
        rw [if_neg (by simp)]
        exact l1_true s hs hw hlt (fun x hx => by rw [inS_iff, mem_plus]; exact hx) h0 s[i].length K 0 (by omega) (by omega)
      · obtain ⟨K0, h0⟩ := ih (i + 1) v l (by omega) hv
        refine ⟨K0 + 5, fun K hK => ?_⟩
        obtain ⟨K, rfl⟩ : ∃ m, K = m + 1 + 1 := ⟨K - 2, by omega⟩
        rw [fareboxlaw13_RiskChain.l0]
        rw [if_pos (by omega), fareboxlaw13_RiskChain.j1]
        rw [if_pos (by simpa using h40), if_pos (by omega), if_pos (by omega), rd3_nat s i hlt]
        unfold risk_Diff.f
        rw [if_pos (show v ≤ 9223372036854775807 ∧ s[i].length * 16 ≤ 281474976710656 from ⟨hv, by omega⟩)]
        simp only [Option.bind_some]
        rw [if_neg h, e3]
        exact h0 K (by omega)
    · refine ⟨2, fun K hK => ?_⟩
      obtain ⟨K, rfl⟩ : ∃ m, K = m + 1 + 1 := ⟨K - 2, by omega⟩
      rw [fareboxlaw13_RiskChain.l0]
      rw [if_pos (by omega), fareboxlaw13_RiskChain.j1]
      rw [if_neg (by simpa using h40)]

theorem chain_true : ∃ K, fareboxlaw13_RiskChain.f K s = some true := by
  obtain ⟨K0, h⟩ := l0_true s hs hw s.length 0 0 [] (by omega) (by omega)
  refine ⟨K0, ?_⟩
  unfold fareboxlaw13_RiskChain.f fareboxlaw13_awake.f
  simp only [Option.bind_some]
  exact h K0 (Nat.le_refl _)
end
end Go.Proofs.Ytodonkgheffibaa.PE
