/- What Join answers, in plain words; what it does is what both do. -/
import Derived.Test.YtodonkgheffibaaXJx2
import Derived.Test.YtodonkgheffibaaPureC
namespace Go.Proofs.Ytodonkgheffibaa.PF
open Go.RowKit Go.Proofs.Ytodonkgheffibaa.PA Go.Proofs.Ytodonkgheffibaa.PB Go.Proofs.Ytodonkgheffibaa.PC Go.Proofs.Ytodonkgheffibaa.Hand Go.Proofs.Ytodonkgheffibaa.XJ Go.Proofs.YtodonkgheffibaaW.PrintWords Go.Proofs.YtodonkgheffibaaW.PrintLast

def joinS (a0 : Int) (l1 l2 : List ByteArray) (b0 : Int) (m1 m2 : List ByteArray) : Int × List ByteArray × List ByteArray × Int :=
  if mayB a0 l1 l2 = true ∧ mayB b0 m1 m2 = true then
    if wrap64 (b0 - 1) = a0 then
      if (lessS m1 l1).length < m1.length then (0, [], [], 131)
      else if (lessS m2 l2).length < m2.length then (0, [], [], 131)
      else if 1000 < (plusL (lessS l1 m2) (lessS m1 l2)).length then (0, [], [], 2)
      else if 1000 < (plusL (lessS l2 m1) (lessS m2 l1)).length then (0, [], [], 2)
      else (b0, plusL (lessS l1 m2) (lessS m1 l2), plusL (lessS l2 m1) (lessS m2 l1), 0)
    else (0, [], [], 130)
  else (0, [], [], 80)

theorem may_len {v : Int} {a g : List ByteArray} (h : mayB v a g = true) : a.length ≤ 1000 ∧ g.length ≤ 1000 := by
  obtain ⟨_, h1, h2, _⟩ := may_one h
  exact ⟨((part_iff a).1 h1).1, ((part_iff g).1 h2).1⟩

theorem less_f {l m : List ByteArray} (h : l.length ≤ 8796093022208) : risk_less_string.f l m = some (lessS l m) := by
  unfold risk_less_string.f
  rw [if_pos h]
theorem plus_f {l m : List ByteArray} (h : (l.length + m.length) * 16 ≤ 281474976710656) : risk_plus_string.f l m = some (plusL l m) := by
  unfold risk_plus_string.f
  rw [if_pos h]

theorem join_total (a0 : Int) (l1 l2 : List ByteArray) (b0 : Int) (m1 m2 : List ByteArray) (K : Nat) : risk_Join.f (K + 1) a0 l1 l2 b0 m1 m2 = some (joinS a0 l1 l2 b0 m1 m2) := by
  unfold risk_Join.f risk_may.f joinS
  simp only [Option.bind_some]
  by_cases h1 : mayB a0 l1 l2 = true
  · rw [if_pos h1]
    by_cases h2 : mayB b0 m1 m2 = true
    · rw [if_pos ⟨h1, h2⟩, h2, risk_Join.j0]
      rw [if_neg (by simp)]
      obtain ⟨q1, q2⟩ := may_len h1
      obtain ⟨q3, q4⟩ := may_len h2
      have k1 := less_len l1 m2
      have k2 := less_len m1 l2
      have k3 := less_len l2 m1
      have k4 := less_len m2 l1
      by_cases h3 : wrap64 (b0 - 1) = a0
      · rw [if_pos h3, if_pos h3, less_f (by omega), less_f (by omega), less_f (by omega), less_f (by omega), less_f (by omega), less_f (by omega)]
        simp only [Option.bind_some]
        rw [plus_f (by omega), plus_f (by omega)]
        simp only [Option.bind_some]
        by_cases h4 : (lessS m1 l1).length < m1.length
        · rw [if_pos (by omega), if_pos h4]
        · rw [if_neg (by omega), if_neg h4]
          by_cases h5 : (lessS m2 l2).length < m2.length
          · rw [if_pos (by omega), if_pos h5]
          · rw [if_neg (by omega), if_neg h5]
            by_cases h6 : 1000 < (plusL (lessS l1 m2) (lessS m1 l2)).length
            · rw [if_pos (by omega), if_pos h6]
            · rw [if_neg (by omega), if_neg h6]
              by_cases h7 : 1000 < (plusL (lessS l2 m1) (lessS m2 l1)).length
              · rw [if_pos (by omega), if_pos h7]
              · rw [if_neg (by omega), if_neg h7]
      · rw [if_neg h3, if_neg h3]
    · rw [if_neg (fun h => h2 h.2), Bool.eq_false_iff.2 h2, risk_Join.j0]
      rw [if_pos (by rfl)]
  · rw [if_neg h1, if_neg (fun h => h1 h.1), risk_Join.j0]
    rw [if_pos rfl]
end Go.Proofs.Ytodonkgheffibaa.PF
