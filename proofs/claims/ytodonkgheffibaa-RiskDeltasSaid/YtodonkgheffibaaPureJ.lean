/- What Join answers, in plain words. -/
import Derived.Test.YtodonkgheffibaaPureC
namespace Go.Proofs.Ytodonkgheffibaa.PJ
open Go.RowKit Go.Proofs.Ytodonkgheffibaa.PA Go.Proofs.Ytodonkgheffibaa.PB Go.Proofs.Ytodonkgheffibaa.PC Go.Proofs.Ytodonkgheffibaa.Hand

def joinS (a0 : Int) (l1 l2 : List ByteArray) (b0 : Int) (m1 m2 : List ByteArray) : Int × List ByteArray × List ByteArray × Int :=
  if mayB a0 l1 l2 = true ∧ mayB b0 m1 m2 = true then
    if wrap64 (b0 - 1) = a0 then
      if (lessS m1 l1).length < m1.length then (0, [], [], 131)
      else if (lessS m2 l2).length < m2.length then (0, [], [], 131)
      else if 1000 < (plusL (lessS l1 m2) (lessS m1 l2)).length then (0, [], [], 2)
      else if 1000 < (plusL (lessS l2 m1) (lessS m2 l1)).length then (0, [], [], 2)
      else (b0, plusL (lessS l1 m2) (lessS m1 l2), plusL (lessS l2 m1) (lessS m2 l1), 0)
    else (0, [], [], 130)
  else (0, [], [], 80)
theorem may_len {v : Int} {a g : List ByteArray} (h : mayB v a g = true) : a.length ≤ 1000 ∧ g.length ≤ 1000 := by
  obtain ⟨_, h1, h2, _⟩ := may_one h
  exact ⟨((part_iff a).1 h1).1, ((part_iff g).1 h2).1⟩
end Go.Proofs.Ytodonkgheffibaa.PJ
