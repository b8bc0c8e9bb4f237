/- '<=' on texts: not '>'. -/
import Derived.Test.YtodonkgheffibaaPureA
namespace Go.Proofs.Ytodonkgheffibaa.Hand
open Go.Proofs.Ytodonkgheffibaa.PA
theorem le_str (a b : List UInt8) : (Op.bytesLess a b || (a == b)) = !(Op.bytesLess b a) := by
  rw [bytesLess_eq, bytesLess_eq]
  by_cases h : a < b
  · have h2 : ¬ b < a := fun h3 => List.lt_irrefl a (List.lt_trans h h3)
    simp [h, h2]
  · by_cases e : a = b
    · subst e
      simp [List.lt_irrefl]
    · have h2 : b < a := Classical.byContradiction fun h3 => e (List.le_antisymm h3 h)
      simp [h, e, h2]
end Go.Proofs.Ytodonkgheffibaa.Hand
