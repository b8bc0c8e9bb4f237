/- The small case that each statement about debts begins with (the document's example): it comes out right. -/
import Derived.Test.YtbfpggghcdfghaaHandD
namespace Go.Proofs.Ytbfpggghcdfghaa.Hand
open Go.RowKit Go.Maps Go.Sort Go.Proofs.YtbfpggghcdfghaaW.PrintWords Go.Proofs.Ytbfpggghcdfghaa.PA

def aA : ByteArray := ⟨#[97, 97, 97, 97, 97, 97, 97, 97]⟩
theorem s1 : setS [] aA 500 = (500, 0, 0, [(aA, 500, 0)]) := by decide
theorem s2 : payS [(aA, 500, 0)] aA 200 = (0, [(aA, 500, 200)]) := by decide
theorem s3 : listS [(aA, 500, 200)] 299 = [aA] := by decide
theorem s4 : setS [(aA, 500, 200)] aA 100 = (-400, 100, 0, [(aA, 100, 100)]) := by decide
theorem s5 : payS [(aA, 100, 100)] aA 1 = (220, [(aA, 100, 100)]) := by decide
theorem s6 : chS [(aA, 100, 100)] aA - paS [(aA, 100, 100)] aA = 0 := by decide
theorem aA_size : aA.size ≤ maxLen := by decide
theorem below_grown {B : Nat} {a w w' : World} {b : Nat} (h : Below B a w) (hg : w.grownBy w' (some b)) (hb : B ≤ b) (hB : B ≤ w.heap.size) : Below B a w' := h.grown hg hB (fun k hk => by cases hk; exact hb)
theorem below_none {B : Nat} {a w w' : World} (h : Below B a w) (hg : w.grownBy w' none) (hB : B ≤ w.heap.size) : Below B a w' := h.grown hg hB (fun k hk => by cases hk)
set_option maxRecDepth 20000 in
theorem awake_any (w : World) : Calls Try.prog 7 #[] w fun e w' => e = .returned (.bool true) ∧ Below w.heap.size w w' := by
  have f1 : Fine [(aA, 500, 0)] := by have := fine_set fine_nil aA 500; rw [s1] at this; exact this
  have f2 : Fine [(aA, 500, 200)] := by have := fine_pay f1 aA 200; rw [s2] at this; exact this
  have f3 : Fine [(aA, 100, 100)] := by have := fine_set f2 aA 100; rw [s4] at this; exact this
  have F1 := Lib.hid f1
  have F2 := Lib.hid f2
  have F3 := Lib.hid f3
  clear f1 f2 f3
  go_enter Try.func7, Try.ntmps7
  go_wp2_with fail
  refine (new_any w).mono ?_
  rintro e w1 ⟨rfl, hB1, hg1⟩
  obtain ⟨p, hp⟩ : ∃ p, p = w.heap.size + 1 := ⟨_, rfl⟩
  have hz : w.heap.size ≤ w1.heap.size := hg1.size
  rw [← hp] at hB1 ⊢
  have K1 := Lib.hid hB1
  have L1 := Lib.hid (below_none (Below.refl w.heap.size w) hg1 (Nat.le_refl _))
  clear hB1 hg1 hp hz
  go_wp2_with fail
  refine (set_any p w.heap.size [] aA 500 w1 K1.out fine_nil aA_size).mono ?_
  rw [s1]
  rintro e w2 ⟨rfl, hB, hg⟩
  have K2 := Lib.hid hB
  have L2 := Lib.hid (below_grown L1.out hg (Nat.le_refl _) L1.out.size)
  clear hB hg K1 L1
  go_wp2_with fail
  refine (pay_any p w.heap.size _ aA 200 w2 K2.out F1.out (by decide) aA_size).mono ?_
  rw [s2]
  rintro e w3 ⟨rfl, hB, hg⟩
  have K3 := Lib.hid hB
  have L3 := Lib.hid (below_grown L2.out hg (Nat.le_refl _) L2.out.size)
  clear hB hg K2 L2
  go_wp2_with fail
  refine (listed_any p w.heap.size _ 299 w3 K3.out F2.out).mono ?_
  rw [s3]
  rintro e w4 ⟨v, rfl, hrow, hg⟩
  obtain ⟨A, c, rfl, hc, _⟩ := C_strings hrow
  have hlen : ([aA] : List ByteArray).length = 1 := rfl
  rw [hlen] at hc ⊢
  have K4 := Lib.hid (K3.out.kept hg (by simp) (by simp))
  have L4 := Lib.hid (below_none L3.out hg L3.out.size)
  clear hrow hg K3 L3 hlen
  go_wp2_with fail
  refine (set_any p w.heap.size _ aA 100 w4 K4.out F2.out aA_size).mono ?_
  rw [s4]
  rintro e w5 ⟨rfl, hB, hg⟩
  have K5 := Lib.hid hB
  have L5 := Lib.hid (below_grown L4.out hg (Nat.le_refl _) L4.out.size)
  clear hB hg K4 L4
  go_wp2_with fail
  refine (pay_any p w.heap.size _ aA 1 w5 K5.out F3.out (by decide) aA_size).mono ?_
  rw [s5]
  rintro e w6 ⟨rfl, hB, hg⟩
  have K6 := Lib.hid hB
  have L6 := Lib.hid (below_grown L5.out hg (Nat.le_refl _) L5.out.size)
  clear hB hg K5 L5
  go_wp2_with fail
  trace_state
  refine (debt_any p w.heap.size _ aA w6 K6.out F3.out aA_size).mono ?_
  rw [s6]
  rintro e w7 ⟨rfl, hg⟩
  have L7 := Lib.hid (below_none L6.out hg L6.out.size)
  clear hg L6 K6
  go_wp2
  go_ret
  exact ⟨rfl, L7.out⟩
end Go.Proofs.Ytbfpggghcdfghaa.Hand
