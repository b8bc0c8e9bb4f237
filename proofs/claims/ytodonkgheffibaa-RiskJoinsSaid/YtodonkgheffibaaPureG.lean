/- Two deltas as one do what both do, one behind the other: what the statement RiskJoins computes is true, for every list, deltas and text. -/
import Derived.Test.YtodonkgheffibaaXDx1
namespace Go.Proofs.Ytodonkgheffibaa.PG
open Go.RowKit Go.Proofs.Ytodonkgheffibaa.PA Go.Proofs.Ytodonkgheffibaa.PB Go.Proofs.Ytodonkgheffibaa.PC Go.Proofs.Ytodonkgheffibaa.PF Go.Proofs.Ytodonkgheffibaa.Hand Go.Proofs.Ytodonkgheffibaa.XD Go.Proofs.YtodonkgheffibaaW.PrintWords Go.Proofs.YtodonkgheffibaaW.PrintLast

/-- May this part be, as a proposition? -/
structure Part (l : List ByteArray) : Prop where
  len : l.length ≤ 1000
  tok : ∀ x ∈ l, tokB x = true
  rise : Rise l
theorem part_iff' {l : List ByteArray} : partB l = true ↔ Part l := by
  rw [part_iff]
  exact ⟨fun ⟨a, b, c⟩ => ⟨a, b, c⟩, fun h => ⟨h.len, h.tok, h.rise⟩⟩
theorem Part.small {l : List ByteArray} (h : Part l) : l.length ≤ 9223372036854775807 := by have := h.len; omega
/-- When Apply answers. -/
structure Can (v : Int) (l : List ByteArray) (dv : Int) (a g : List ByteArray) : Prop where
  good : PC.Good v l
  pos : 1 ≤ dv
  add : Part a
  gone : Part g
  apart : ∀ x ∈ a, x ∉ g
  next : dv - 1 = v
  new : ∀ x ∈ a, x ∉ l
  old : ∀ x ∈ g, x ∈ l
  few : (plusS (lessS l g ++ a)).length ≤ 1000
theorem may_iff {dv : Int} {a g : List ByteArray} : mayB dv a g = true ↔ 1 ≤ dv ∧ Part a ∧ Part g ∧ ∀ x ∈ a, x ∉ g := by
  constructor
  · intro h
    obtain ⟨h1, h2, h3, h4⟩ := may_one h
    have p1 := part_iff'.1 h2
    have p2 := part_iff'.1 h3
    exact ⟨h1, p1, p2, (less_all p2.rise p2.small).1 h4⟩
  · rintro ⟨h1, h2, h3, h4⟩
    unfold mayB
    rw [part_iff'.2 h2, part_iff'.2 h3]
    simp only [Bool.true_and, Bool.and_eq_true, decide_eq_true_eq, beq_iff_eq]
    exact ⟨h1, (less_all h3.rise h3.small).2 h4⟩
theorem apply_iff {v : Int} {l : List ByteArray} {dv : Int} {a g : List ByteArray} : (applyS v l dv a g).2.2 = 0 ↔ Can v l dv a g := by
  unfold applyS
  by_cases h1 : rightS v l = 0
  · rw [if_pos h1]
    have hg := good_iff.1 h1
    by_cases h2 : mayB dv a g = true
    · rw [if_pos h2]
      obtain ⟨m1, m2, m3, m4⟩ := may_iff.1 h2
      by_cases h3 : dv - 1 = v
      · rw [if_pos h3]
        by_cases h4 : (lessS a l).length < a.length ∨ 0 < (lessS g l).length
        · rw [if_pos h4]
          refine ⟨fun h => by simp at h, fun h => ?_⟩
          have e1 := (less_all hg.rise hg.small).2 h.new
          have e2 := (less_none hg.rise hg.small).2 h.old
          omega
        · rw [if_neg h4]
          have l1 := less_len a l
          have e1 := (less_all hg.rise hg.small).1 (show (lessS a l).length = a.length by omega)
          have e2 := (less_none hg.rise hg.small).1 (show (lessS g l).length = 0 by omega)
          by_cases h5 : 1000 < (plusS (lessS l g ++ a)).length
          · rw [if_pos h5]
            exact ⟨fun h => by simp at h, fun h => by have := h.few; omega⟩
          · rw [if_neg h5]
            exact ⟨fun _ => ⟨hg, m1, m2, m3, m4, h3, e1, e2, by omega⟩, fun _ => rfl⟩
      · rw [if_neg h3]
        exact ⟨fun h => by simp at h, fun h => absurd h.next h3⟩
    · rw [if_neg h2]
      exact ⟨fun h => by simp at h, fun h => absurd (may_iff.2 ⟨h.pos, h.add, h.gone, h.apart⟩) h2⟩
  · rw [if_neg h1]
    exact ⟨fun h => absurd h h1, fun h => absurd (good_iff.2 h.good) h1⟩
theorem apply_can {v : Int} {l : List ByteArray} {dv : Int} {a g : List ByteArray} (h : Can v l dv a g) : applyS v l dv a g = (dv, plusS (lessS l g ++ a), 0) := by
  have e1 := (less_all h.good.rise h.good.small).2 h.new
  have e2 := (less_none h.good.rise h.good.small).2 h.old
  have hf := h.few
  unfold applyS
  rw [if_pos (good_iff.2 h.good), if_pos (may_iff.2 ⟨h.pos, h.add, h.gone, h.apart⟩), if_pos h.next, if_neg (by omega), if_neg (by omega)]
theorem apply_no {v : Int} {l : List ByteArray} {dv : Int} {a g : List ByteArray} (h : (applyS v l dv a g).2.2 ≠ 0) : (applyS v l dv a g).1 = 0 ∧ (applyS v l dv a g).2.1 = [] := by
  unfold applyS at h ⊢
  repeat' split
  all_goals first | exact ⟨rfl, rfl⟩ | skip
  all_goals simp_all
theorem next_mem {v : Int} {l : List ByteArray} {dv : Int} {a g : List ByteArray} (h : Can v l dv a g) (x : ByteArray) : x ∈ plusS (lessS l g ++ a) ↔ (x ∈ l ∧ x ∉ g) ∨ x ∈ a := by
  rw [mem_plus, List.mem_append, mem_less h.gone.rise h.gone.small]

/-- Both deltas as one. -/
theorem both_one {v : Int} {l : List ByteArray} {a0 : Int} {a1 a2 : List ByteArray} {b0 : Int} {b1 b2 : List ByteArray} (hA : Can v l a0 a1 a2) (hB : Can a0 (plusS (lessS l a2 ++ a1)) b0 b1 b2) (hb : b0 ≤ 9223372036854775807) :
    (joinS a0 a1 a2 b0 b1 b2).2.2.2 = 2 ∨
    ∃ X Y, joinS a0 a1 a2 b0 b1 b2 = (b0, X, Y, 0) ∧ Can v l (v + 1) X Y ∧ plusS (lessS l Y ++ X) = plusS (lessS (plusS (lessS l a2 ++ a1)) b2 ++ b1) := by
  have hm := next_mem hA
  have hn := next_mem hB
  have d1 : ∀ x ∈ b1, x ∉ a1 := fun x hx hy => hB.new x hx ((hm x).2 (.inr hy))
  have d2 : ∀ x ∈ b2, x ∉ a2 := fun x hx hy => by
    rcases (hm x).1 (hB.old x hx) with ⟨_, h⟩ | h
    · exact h hy
    · exact hA.apart x h hy
  have e1 := (less_all hA.add.rise hA.add.small).2 d1
  have e2 := (less_all hA.gone.rise hA.gone.small).2 d2
  have hp := hB.pos
  have hx : wrap64 (b0 - 1) = a0 := by
    have := hB.next
    unfold wrap64
    omega
  unfold joinS
  rw [if_pos ⟨may_iff.2 ⟨hA.pos, hA.add, hA.gone, hA.apart⟩, may_iff.2 ⟨hB.pos, hB.add, hB.gone, hB.apart⟩⟩, if_pos hx, if_neg (by omega), if_neg (by omega)]
  by_cases h6 : 1000 < (plusL (lessS a1 b2) (lessS b1 a2)).length
  · rw [if_pos h6]
    exact .inl rfl
  · rw [if_neg h6]
    by_cases h7 : 1000 < (plusL (lessS a2 b1) (lessS b2 a1)).length
    · rw [if_pos h7]
      exact .inl rfl
    · rw [if_neg h7]
      have mX : ∀ x, x ∈ plusL (lessS a1 b2) (lessS b1 a2) ↔ (x ∈ a1 ∧ x ∉ b2) ∨ (x ∈ b1 ∧ x ∉ a2) := fun x => by
        unfold plusL
        rw [mem_plus, List.mem_append, mem_less hB.gone.rise hB.gone.small, mem_less hA.gone.rise hA.gone.small]
      have mY : ∀ x, x ∈ plusL (lessS a2 b1) (lessS b2 a1) ↔ (x ∈ a2 ∧ x ∉ b1) ∨ (x ∈ b2 ∧ x ∉ a1) := fun x => by
        unfold plusL
        rw [mem_plus, List.mem_append, mem_less hB.add.rise hB.add.small, mem_less hA.add.rise hA.add.small]
      refine .inr ⟨_, _, rfl, ?_⟩
      generalize hX : plusL (lessS a1 b2) (lessS b1 a2) = X at mX h6
      generalize hY : plusL (lessS a2 b1) (lessS b2 a1) = Y at mY h7
      have rX : Rise X := by rw [← hX]; exact plus_rise _
      have rY : Rise Y := by rw [← hY]; exact plus_rise _
      have pX : Part X := ⟨by omega, fun x hx => by
        rcases (mX x).1 hx with h | h
        · exact hA.add.tok x h.1
        · exact hB.add.tok x h.1, rX⟩
      have pY : Part Y := ⟨by omega, fun x hx => by
        rcases (mY x).1 hx with h | h
        · exact hA.gone.tok x h.1
        · exact hB.gone.tok x h.1, rY⟩
      have hsame : plusS (lessS l Y ++ X) = plusS (lessS (plusS (lessS l a2 ++ a1)) b2 ++ b1) := by
        refine rise_ext (plus_rise _) (plus_rise _) fun x => ?_
        rw [hn x, mem_plus, List.mem_append, mem_less rY pY.small, mX x, mY x, hm x]
        have q1 := hA.apart x
        have q2 := hB.apart x
        have q3 := hA.new x
        have q4 := hA.old x
        have q5 := hB.new x
        have q6 := hB.old x
        rw [hm x] at q5 q6
        by_cases c1 : x ∈ l <;> by_cases c2 : x ∈ a1 <;> by_cases c3 : x ∈ a2 <;> by_cases c4 : x ∈ b1 <;> by_cases c5 : x ∈ b2 <;> simp_all
      refine ⟨⟨hA.good, by have := hA.good.v0; omega, pX, pY, fun x hx hy => ?_, by omega, fun x hx hy => ?_, fun x hx => ?_, ?_⟩, hsame⟩
      · rcases (mX x).1 hx with ⟨h1, h2⟩ | ⟨h1, h2⟩
        · rcases (mY x).1 hy with ⟨h3, h4⟩ | ⟨h3, h4⟩
          · exact hA.apart x h1 h3
          · exact h2 h3
        · rcases (mY x).1 hy with ⟨h3, h4⟩ | ⟨h3, h4⟩
          · exact h2 h3
          · exact hB.apart x h1 h3
      · rcases (mX x).1 hx with ⟨h1, h2⟩ | ⟨h1, h2⟩
        · exact hA.new x h1 hy
        · exact hB.new x h1 ((hm x).2 (.inl ⟨hy, h2⟩))
      · rcases (mY x).1 hx with ⟨h1, h2⟩ | ⟨h1, h2⟩
        · exact hA.old x h1
        · rcases (hm x).1 (hB.old x h1) with h | h
          · exact h.1
          · exact absurd h h2
      · rw [hsame]
        exact hB.few

theorem joins_true (v : Int) (l : List ByteArray) (a0 : Int) (a1 a2 : List ByteArray) (b0 : Int) (b1 b2 : List ByteArray) (tok : ByteArray) (ha : a0 ≤ 9223372036854775807) (hb : b0 ≤ 9223372036854775807)
    (h1 : a1.length * 16 ≤ 140737488351232) (h2 : b1.length * 16 ≤ 140737488351232) : ∃ K, fareboxlaw13_RiskJoins.f K v l a0 a1 a2 b0 b1 b2 tok = some true := by
  refine ⟨5, ?_⟩
  unfold fareboxlaw13_RiskJoins.f fareboxlaw13_awake.f risk_Apply.f
  simp only [Option.bind_some, if_true]
  rw [if_pos (show a0 ≤ 9223372036854775807 ∧ a1.length ≤ 8796093022208 from ⟨ha, by omega⟩)]
  simp only [Option.bind_some]
  by_cases hc : (applyS v l a0 a1 a2).2.2 = 0
  · have hA := apply_iff.1 hc
    rw [apply_can hA]
    rw [show ((((a0, plusS (lessS l a2 ++ a1), (0 : Int)) : Int × List ByteArray × Int).2.2 != 0)) = false by simp]
    rw [show (5 : Nat) = 4 + 1 from rfl, fareboxlaw13_RiskJoins.j0]
    rw [if_neg (by simp)]
    have hj : fareboxlaw13_RiskJoins.j1 4 false v l a0 a1 a2 b0 b1 b2 a0 (plusS (lessS l a2 ++ a1)) = some true := by
      rw [show (4 : Nat) = 3 + 1 from rfl, fareboxlaw13_RiskJoins.j1]
      rw [if_neg (by simp)]
      unfold risk_Apply.f
      rw [if_pos (show b0 ≤ 9223372036854775807 ∧ b1.length ≤ 8796093022208 from ⟨hb, by omega⟩)]
      simp only [Option.bind_some]
      by_cases hd : (applyS a0 (plusS (lessS l a2 ++ a1)) b0 b1 b2).2.2 = 0
      · rw [if_pos hd]
        have hB := apply_iff.1 hd
        rw [apply_can hB]
        unfold risk_Join.f
        simp only [Option.bind_some]
        rcases both_one hA hB hb with h | ⟨X, Y, he, hC, hs⟩
        · rw [if_neg (by omega), h]
          rfl
        · rw [he]
          have hw : wrap64 (v + 1) = v + 1 := by
            have := hA.next
            have := hA.good.v0
            unfold wrap64
            omega
          have hxl := hC.add.len
          rw [if_pos rfl, hw, if_pos (show v + 1 ≤ 9223372036854775807 ∧ X.length ≤ 8796093022208 from ⟨by have := hA.next; omega, by omega⟩), apply_can hC, hs]
          unfold fareboxref13_SameTokens.f
          simp only [Option.bind_some]
          rw [(sameS_iff _ _).2 rfl]
          rfl
      · rw [if_neg hd]
    unfold risk_Has.f fareboxref13_Has.f
    simp only [Option.bind_some]
    have hm := next_mem hA tok
    have q1 := hA.apart tok
    have q3 := hA.new tok
    by_cases c1 : tok ∈ a1
    · have e1 := (inS_iff a1 tok).2 c1
      have e2 := (inS_iff (plusS (lessS l a2 ++ a1)) tok).2 (hm.2 (.inr c1))
      rw [if_pos e1, e2]
      exact hj
    · have e1 := (inS_false_iff a1 tok).2 c1
      rw [e1, if_neg (by simp)]
      by_cases c2 : tok ∈ l
      · have e2 := (inS_iff l tok).2 c2
        rw [if_pos e2]
        by_cases c3 : tok ∈ a2
        · have e3 := (inS_iff a2 tok).2 c3
          have e4 := (inS_false_iff (plusS (lessS l a2 ++ a1)) tok).2 (fun h => by rcases hm.1 h with h | h; exact h.2 c3; exact c1 h)
          rw [e3, e4]
          exact hj
        · have e3 := (inS_false_iff a2 tok).2 c3
          have e4 := (inS_iff (plusS (lessS l a2 ++ a1)) tok).2 (hm.2 (.inl ⟨c2, c3⟩))
          rw [e3, e4]
          exact hj
      · have e2 := (inS_false_iff l tok).2 c2
        have e4 := (inS_false_iff (plusS (lessS l a2 ++ a1)) tok).2 (fun h => by rcases hm.1 h with h | h; exact c2 h.1; exact c1 h)
        rw [e2, if_neg (by simp), e4]
        exact hj
  · obtain ⟨e1, e2⟩ := apply_no hc
    rw [show (5 : Nat) = 4 + 1 from rfl, fareboxlaw13_RiskJoins.j0]
    rw [if_pos (by simpa using hc), if_pos rfl, if_pos e1, e2]
    rfl
end Go.Proofs.Ytodonkgheffibaa.PG
