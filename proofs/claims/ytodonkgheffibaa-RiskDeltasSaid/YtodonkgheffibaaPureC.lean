/- What risk.Right, Apply and Diff answer, in plain words; that a delta leads just there. -/
import Derived.Test.YtodonkgheffibaaPureB
import Derived.Test.YtodonkgheffibaaXBx
namespace Go.Proofs.Ytodonkgheffibaa.PC
open Go.RowKit Go.Proofs.Ytodonkgheffibaa.PA Go.Proofs.Ytodonkgheffibaa.PB Go.Proofs.Ytodonkgheffibaa.Hand Go.Proofs.Ytodonkgheffibaa.XB

def listB (l : List ByteArray) : Bool := toksB l && risingS l
def rightS (v : Int) (l : List ByteArray) : Int :=
  if v < 0 ∨ (v = 0 ∧ 0 < l.length) then 130 else if 1000 < l.length then 2 else if listB l = true then 0 else 131
theorem right_j0 (b : Bool) (v : Int) (l : List ByteArray) (K : Nat) : risk_Right.j0 (K + 1) b v l = some (if b = true then 130 else if 1000 < l.length then 2 else if listB l = true then 0 else 131) := by
  simp only [risk_Right.j0]
  cases b
  · rw [if_neg (show ¬ (false = true) from Bool.false_ne_true), if_neg (show ¬ (false = true) from Bool.false_ne_true)]
    by_cases h : 1000 < l.length
    · rw [if_pos (show (l.length : Int) > 1000 by omega), if_pos h]
    · rw [if_neg (show ¬ (l.length : Int) > 1000 by omega), if_neg h]
      unfold risk_tokens.f risk_rising_string.f listB
      simp only [Option.bind_some]
      cases toksB l <;> cases risingS l <;> simp
  · rw [if_pos rfl, if_pos rfl]
theorem right_total (v : Int) (l : List ByteArray) (K : Nat) : risk_Right.f (K + 1) v l = some (rightS v l) := by
  unfold risk_Right.f rightS
  by_cases h1 : v < 0
  · rw [if_pos h1, right_j0, if_pos rfl, if_pos (.inl h1)]
  · rw [if_neg h1]
    by_cases h2 : v = 0
    · rw [if_pos h2, right_j0]
      by_cases h3 : 0 < l.length
      · rw [if_pos (show decide ((l.length : Int) > 0) = true by simpa using h3), if_pos (show v < 0 ∨ (v = 0 ∧ 0 < l.length) from .inr ⟨h2, h3⟩)]
      · rw [if_neg (show ¬ decide ((l.length : Int) > 0) = true by simpa using h3), if_neg (show ¬ (v < 0 ∨ (v = 0 ∧ 0 < l.length)) by omega)]
    · rw [if_neg h2, right_j0, if_neg (show ¬ (false = true) from Bool.false_ne_true), if_neg (show ¬ (v < 0 ∨ (v = 0 ∧ 0 < l.length)) by omega)]
theorem right_zero {v : Int} {l : List ByteArray} : rightS v l = 0 ↔ 0 ≤ v ∧ (v = 0 → l.length = 0) ∧ l.length ≤ 1000 ∧ listB l = true := by
  unfold rightS
  by_cases h1 : v < 0 ∨ (v = 0 ∧ 0 < l.length)
  · rw [if_pos h1]
    constructor
    · intro h; omega
    · rintro ⟨a, b, _⟩; omega
  · rw [if_neg h1]
    by_cases h2 : 1000 < l.length
    · rw [if_pos h2]
      constructor
      · intro h; omega
      · rintro ⟨a, b, c, _⟩; omega
    · rw [if_neg h2]
      by_cases h3 : listB l = true
      · rw [if_pos h3]
        exact ⟨fun _ => ⟨by omega, by omega, by omega, h3⟩, fun _ => rfl⟩
      · rw [if_neg h3]
        constructor
        · intro h; omega
        · rintro ⟨_, _, _, d⟩; exact absurd d h3
theorem list_iff (l : List ByteArray) : listB l = true ↔ (∀ x ∈ l, tokB x = true) ∧ Rise l := by
  unfold listB toksB
  rw [Bool.and_eq_true, List.all_eq_true, rising_sorted]
theorem part_iff (l : List ByteArray) : partB l = true ↔ l.length ≤ 1000 ∧ (∀ x ∈ l, tokB x = true) ∧ Rise l := by
  rw [← list_iff]
  unfold partB listB
  simp

def applyS (v : Int) (l : List ByteArray) (dv : Int) (add gone : List ByteArray) : Int × List ByteArray × Int :=
  if rightS v l = 0 then
    if mayB dv add gone = true then
      if dv - 1 = v then
        if (lessS add l).length < add.length ∨ 0 < (lessS gone l).length then (0, [], 131)
        else if 1000 < (plusS (lessS l gone ++ add)).length then (0, [], 2) else (dv, plusS (lessS l gone ++ add), 0)
      else (0, [], 130)
    else (0, [], 80)
  else (0, [], rightS v l)
theorem apply_j0 (x : List ByteArray) (b : Bool) (dv : Int) (add gone : List ByteArray) (K : Nat) : risk_Apply.j0 (K + 1) x b dv add gone = some (if b = true then (0, [], 131) else if 1000 < x.length then (0, [], 2) else (dv, x, 0)) := by
  simp only [risk_Apply.j0]
  cases b
  · rw [if_neg (show ¬ (false = true) from Bool.false_ne_true), if_neg (show ¬ (false = true) from Bool.false_ne_true)]
    by_cases h : 1000 < x.length
    · rw [if_pos (show (x.length : Int) > 1000 by omega), if_pos h]
    · rw [if_neg (show ¬ (x.length : Int) > 1000 by omega), if_neg h]
  · rw [if_pos rfl, if_pos rfl]
theorem may_one {dv : Int} {a g : List ByteArray} (h : mayB dv a g = true) : 1 ≤ dv ∧ partB a = true ∧ partB g = true ∧ (lessS a g).length = a.length := by
  unfold mayB at h
  simp only [Bool.and_eq_true, decide_eq_true_eq, beq_iff_eq] at h
  exact ⟨h.2.1, h.1.1, h.1.2, h.2.2⟩
theorem apply_total (v : Int) (l : List ByteArray) (dv : Int) (add gone : List ByteArray) (hdv : dv ≤ 9223372036854775807) (ha : add.length ≤ 8796093022208) (K : Nat) :
    risk_Apply.f (K + 1) v l dv add gone = some (applyS v l dv add gone) := by
  unfold risk_Apply.f applyS
  rw [right_total]
  simp only [Option.bind_some]
  by_cases h1 : rightS v l = 0
  · rw [if_pos h1, if_pos h1]
    have hl := (right_zero.1 h1).2.2.1
    have hlen := less_len l gone
    unfold risk_less_string.f
    rw [if_pos (show l.length ≤ 8796093022208 by omega)]
    simp only [Option.bind_some]
    unfold risk_plus_string.f
    rw [if_pos (show ((lessS l gone).length + add.length) * 16 ≤ 281474976710656 by omega)]
    simp only [Option.bind_some]
    unfold risk_may.f
    simp only [Option.bind_some]
    by_cases h2 : mayB dv add gone = true
    · obtain ⟨hd1, hpa, hpg, _⟩ := may_one h2
      have hal := ((part_iff add).1 hpa).1
      have hgl := ((part_iff gone).1 hpg).1
      have hw : wrap64 (dv - 1) = dv - 1 := by unfold wrap64; omega
      rw [if_pos h2, if_pos h2, hw]
      by_cases h3 : dv - 1 = v
      · rw [if_pos h3, if_pos h3, if_pos (show add.length ≤ 8796093022208 by omega)]
        simp only [Option.bind_some]
        by_cases h4 : (lessS add l).length < add.length
        · rw [if_pos (show ((lessS add l).length : Int) < (add.length : Int) by omega), if_pos (show (lessS add l).length < add.length ∨ 0 < (lessS gone l).length from .inl h4), apply_j0, if_pos rfl]
        · rw [if_neg (show ¬ ((lessS add l).length : Int) < (add.length : Int) by omega), if_pos (show gone.length ≤ 8796093022208 by omega)]
          simp only [Option.bind_some]
          rw [apply_j0]
          by_cases h5 : 0 < (lessS gone l).length
          · rw [if_pos (show decide (((lessS gone l).length : Int) > 0) = true by simpa using h5), if_pos (show (lessS add l).length < add.length ∨ 0 < (lessS gone l).length from .inr h5)]
          · rw [if_neg (show ¬ decide (((lessS gone l).length : Int) > 0) = true by simpa using h5), if_neg (show ¬ ((lessS add l).length < add.length ∨ 0 < (lessS gone l).length) by omega)]
            rfl
      · rw [if_neg h3, if_neg h3]
    · rw [if_neg h2, if_neg h2]
  · rw [if_neg h1, if_neg h1]

def diffS (v : Int) (l want : List ByteArray) : Int × List ByteArray × List ByteArray × Int :=
  if rightS v l = 0 then
    if v = 9223372036854775807 then (0, [], [], 130)
    else if toksB want = true then
      if 1000 < (plusS want).length then (0, [], [], 2) else (v + 1, lessS (plusS want) l, lessS l (plusS want), 0)
    else (0, [], [], 131)
  else (0, [], [], rightS v l)
theorem diff_total (v : Int) (l want : List ByteArray) (hv : v ≤ 9223372036854775807) (hw : want.length * 16 ≤ 281474976710656) (K : Nat) :
    risk_Diff.f (K + 1) v l want = some (diffS v l want) := by
  unfold risk_Diff.f diffS
  rw [right_total]
  simp only [Option.bind_some]
  by_cases h1 : rightS v l = 0
  · rw [if_pos h1, if_pos h1]
    obtain ⟨hv0, _, hl, _⟩ := right_zero.1 h1
    unfold risk_plus_string.f
    rw [if_pos (show (want.length + ([] : List ByteArray).length) * 16 ≤ 281474976710656 by simpa using hw)]
    simp only [Option.bind_some]
    have e : plusL want [] = plusS want := by simp [plusL]
    rw [e]
    by_cases h2 : v = 9223372036854775807
    · rw [if_pos h2, if_pos h2]
    · rw [if_neg h2, if_neg h2]
      unfold risk_tokens.f
      simp only [Option.bind_some]
      by_cases h3 : toksB want = true
      · rw [if_pos h3, if_pos h3]
        by_cases h4 : 1000 < (plusS want).length
        · rw [if_pos (show ((plusS want).length : Int) > 1000 by omega), if_pos h4]
        · rw [if_neg (show ¬ ((plusS want).length : Int) > 1000 by omega), if_neg h4]
          unfold risk_less_string.f
          rw [if_pos (show (plusS want).length ≤ 8796093022208 by omega)]
          simp only [Option.bind_some]
          rw [if_pos (show l.length ≤ 8796093022208 by omega)]
          simp only [Option.bind_some]
          rw [show wrap64 (v + 1) = v + 1 from by unfold wrap64; omega]
      · rw [if_neg h3, if_neg h3]
  · rw [if_neg h1, if_neg h1]

/-! ### a delta leads just there -/
structure Good (v : Int) (l : List ByteArray) : Prop where
  v0 : 0 ≤ v
  emp : v = 0 → l.length = 0
  len : l.length ≤ 1000
  tok : ∀ x ∈ l, tokB x = true
  rise : Rise l
theorem good_iff {v : Int} {l : List ByteArray} : rightS v l = 0 ↔ Good v l := by
  rw [right_zero, list_iff]
  exact ⟨fun ⟨a, b, c, d, e⟩ => ⟨a, b, c, d, e⟩, fun h => ⟨h.v0, h.emp, h.len, h.tok, h.rise⟩⟩
theorem Good.small {v : Int} {l : List ByteArray} (h : Good v l) : l.length ≤ 9223372036854775807 := by have := h.len; omega
/-- What Diff answers where it answers. -/
structure Led (v : Int) (l want : List ByteArray) : Prop where
  good : Good v l
  vmax : v ≠ 9223372036854775807
  tok : ∀ x ∈ want, tokB x = true
  few : (plusS want).length ≤ 1000
theorem diff_ok {v : Int} {l want : List ByteArray} (h : (diffS v l want).2.2.2 = 0) : Led v l want ∧ diffS v l want = (v + 1, lessS (plusS want) l, lessS l (plusS want), 0) := by
  unfold diffS at h ⊢
  by_cases h1 : rightS v l = 0
  · rw [if_pos h1] at h ⊢
    by_cases h2 : v = 9223372036854775807
    · rw [if_pos h2] at h
      simp at h
    · rw [if_neg h2] at h ⊢
      by_cases h3 : toksB want = true
      · rw [if_pos h3] at h ⊢
        by_cases h4 : 1000 < (plusS want).length
        · rw [if_pos h4] at h
          simp at h
        · rw [if_neg h4]
          exact ⟨⟨good_iff.1 h1, h2, by simpa [toksB] using h3, by omega⟩, rfl⟩
      · rw [if_neg h3] at h
        simp at h
  · rw [if_neg h1] at h
    exact absurd h h1
theorem diff_no {v : Int} {l want : List ByteArray} (h : (diffS v l want).2.2.2 ≠ 0) : (diffS v l want).1 = 0 ∧ (diffS v l want).2.1 = [] ∧ (diffS v l want).2.2.1 = [] := by
  unfold diffS at h ⊢
  by_cases h1 : rightS v l = 0
  · rw [if_pos h1] at h ⊢
    by_cases h2 : v = 9223372036854775807
    · rw [if_pos h2]; exact ⟨rfl, rfl, rfl⟩
    · rw [if_neg h2] at h ⊢
      by_cases h3 : toksB want = true
      · rw [if_pos h3] at h ⊢
        by_cases h4 : 1000 < (plusS want).length
        · rw [if_pos h4]; exact ⟨rfl, rfl, rfl⟩
        · rw [if_neg h4] at h
          simp at h
      · rw [if_neg h3]; exact ⟨rfl, rfl, rfl⟩
  · rw [if_neg h1]; exact ⟨rfl, rfl, rfl⟩
theorem led_good {v : Int} {l want : List ByteArray} (h : Led v l want) : Good (v + 1) (plusS want) :=
  ⟨by have := h.good.v0; omega, fun e => by have := h.good.v0; omega, h.few, fun x hx => h.tok x ((mem_plus want x).1 hx), plus_rise want⟩
theorem led_apply {v : Int} {l want : List ByteArray} (h : Led v l want) : applyS v l (v + 1) (lessS (plusS want) l) (lessS l (plusS want)) = (v + 1, plusS want, 0) := by
  have hW := plus_rise want
  have hL := h.good.rise
  have hWn : (plusS want).length ≤ 9223372036854775807 := by have := h.few; omega
  have hLn := h.good.small
  have hA : Rise (lessS (plusS want) l) := less_rise hW
  have hG : Rise (lessS l (plusS want)) := less_rise hL
  have hGn : (lessS l (plusS want)).length ≤ 9223372036854775807 := Nat.le_trans (less_len _ _) hLn
  have hv0 := h.good.v0
  have hmay : mayB (v + 1) (lessS (plusS want) l) (lessS l (plusS want)) = true := by
    unfold mayB
    have p1 : partB (lessS (plusS want) l) = true := (part_iff _).2 ⟨Nat.le_trans (less_len _ _) h.few, fun x hx => h.tok x ((mem_plus want x).1 ((mem_less hL hLn x).1 hx).1), hA⟩
    have p2 : partB (lessS l (plusS want)) = true := (part_iff _).2 ⟨Nat.le_trans (less_len _ _) h.good.len, fun x hx => h.good.tok x ((mem_less hW hWn x).1 hx).1, hG⟩
    rw [p1, p2]
    simp only [Bool.true_and, Bool.and_eq_true, decide_eq_true_eq, beq_iff_eq]
    exact ⟨by omega, (less_all hG hGn).2 fun x hx hx2 => ((mem_less hL hLn x).1 hx).2 ((mem_less hW hWn x).1 hx2).1⟩
  have e1 : (lessS (lessS (plusS want) l) l).length = (lessS (plusS want) l).length := (less_all hL hLn).2 fun x hx => ((mem_less hL hLn x).1 hx).2
  have e2 : (lessS (lessS l (plusS want)) l).length = 0 := (less_none hL hLn).2 fun x hx => ((mem_less hW hWn x).1 hx).1
  have e3 : plusS (lessS l (lessS l (plusS want)) ++ lessS (plusS want) l) = plusS want := by
    refine rise_ext (plus_rise _) hW fun x => ?_
    rw [mem_plus, List.mem_append, mem_less hG hGn, mem_less hW hWn, mem_less hL hLn]
    constructor
    · rintro (⟨h1, h2⟩ | ⟨h1, h2⟩)
      · exact Classical.byContradiction fun h3 => h2 ⟨h1, h3⟩
      · exact h1
    · intro hx
      by_cases hxl : x ∈ l
      · exact .inl ⟨hxl, fun h3 => h3.2 hx⟩
      · exact .inr ⟨hx, hxl⟩
  have hf := h.few
  unfold applyS
  rw [if_pos (good_iff.2 h.good), if_pos hmay, if_pos (by omega), if_neg (by rw [e1, e2]; omega), e3, if_neg (by omega)]
/-- Back it goes by the delta turned round. -/
theorem led_back {v : Int} {l want : List ByteArray} (h : Led v l want) (hm : v + 1 ≠ 9223372036854775807) : diffS (v + 1) (plusS want) l = (v + 1 + 1, lessS l (plusS want), lessS (plusS want) l, 0) := by
  have hg := led_good h
  have hp : plusS l = l := plus_of_rise h.good.rise
  have hl := h.good.len
  unfold diffS
  rw [if_pos (good_iff.2 hg), if_neg hm, if_pos (by simpa [toksB] using h.good.tok), hp, if_neg (by omega)]
end Go.Proofs.Ytodonkgheffibaa.PC
