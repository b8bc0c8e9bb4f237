/- The document's Diff and Join answer what the program's do. -/
import Derived.Test.YtodonkgheffibaaXTx1
import Derived.Test.YtodonkgheffibaaXTx2
import Derived.Test.YtodonkgheffibaaPureJ
import Derived.Test.YtodonkgheffibaaXJx2
namespace Go.Proofs.Ytodonkgheffibaa.PT
open Go.RowKit Go.Proofs.Ytodonkgheffibaa.PA Go.Proofs.Ytodonkgheffibaa.PB Go.Proofs.Ytodonkgheffibaa.PC Go.Proofs.Ytodonkgheffibaa.PS Go.Proofs.Ytodonkgheffibaa.Hand Go.Proofs.Ytodonkgheffibaa.XS Go.Proofs.YtodonkgheffibaaW.PrintWords

section
variable (v : Int) (l want : List ByteArray)
theorem put_grows (l : List ByteArray) (x : ByteArray) : l.length ≤ (putS l x).length := by
  induction l with
  | nil => exact Nat.zero_le _
  | cons y r ih =>
    unfold putS
    split
    · simp only [List.length_cons]
      omega
    · split
      · exact Nat.le_refl _
      · simp only [List.length_cons]
        omega
theorem putAll_grows (a : List ByteArray) : ∀ o : List ByteArray, o.length ≤ (putAll o a).length := by
  induction a with
  | nil => intro o; exact Nat.le_refl _
  | cons x r ih => intro o; exact Nat.le_trans (put_grows o x) (ih (putS o x))
theorem diff_l1 (hln : l.length ≤ 1000) (hv : v ≠ 9223372036854775807) (hv0 : 0 ≤ v) (hv1 : v ≤ 9223372036854775807) (hw : want.length ≤ 9223372036854775807) (d : Nat) : ∀ (K i : Nat) (o : List ByteArray), i + d = want.length → d < K → o.length ≤ 1000 →
    fareboxref13_Diff.l1 K want o (i : Int) v l = some (if 1000 < (putAll o (want.drop i)).length then (0, [], [], 2) else (v + 1, withoutS (putAll o (want.drop i)) l, withoutS l (putAll o (want.drop i)), 0)) := by
  induction d with
  | zero =>
    intro K i o hi hK ho
    obtain ⟨K, rfl⟩ : ∃ m, K = m + 1 := ⟨K - 1, by omega⟩
    rw [fareboxref13_Diff.l1, List.drop_eq_nil_of_le (by omega)]
    rw [if_neg (by omega)]
    show _ = some (if 1000 < o.length then (0, [], [], 2) else (v + 1, withoutS o l, withoutS l o, 0))
    rw [if_neg (by omega)]
    unfold fareboxref13_without.f
    rw [if_pos (by omega), if_pos (by omega)]
    simp only [Option.bind_some]
    rw [show wrap64 (v + 1) = v + 1 by unfold wrap64; omega]
  | succ d ih =>
    intro K i o hi hK ho
    obtain ⟨K, rfl⟩ : ∃ m, K = m + 1 := ⟨K - 1, by omega⟩
    have hlt : i < want.length := by omega
    have e2 : wrap64 ((i : Int) + 1) = ((i + 1 : Nat) : Int) := by rw [wrap_ok (n := want.length) (by omega) (by omega) (by omega)]; omega
    rw [fareboxref13_Diff.l1, List.drop_eq_getElem_cons hlt]
    rw [if_pos (by omega), if_pos (by omega), rd_nat want i hlt, e2]
    unfold fareboxref13_put.f
    rw [if_pos (by omega)]
    simp only [Option.bind_some]
    by_cases h : 1000 < (putS o want[i]).length
    · rw [if_pos (by omega)]
      have h2 := putAll_grows (want.drop (i + 1)) (putS o want[i])
      rw [if_pos (show 1000 < (putAll o (want[i] :: want.drop (i + 1))).length from Nat.lt_of_lt_of_le h h2)]
    · rw [if_neg (by omega)]
      exact ih K (i + 1) (putS o want[i]) (by omega) (by omega) (by omega)
theorem diff_l0 (hln : l.length ≤ 1000) (hv : v ≠ 9223372036854775807) (hv0 : 0 ≤ v) (hv1 : v ≤ 9223372036854775807) (hw : want.length ≤ 9223372036854775807) (d : Nat) : ∀ (K i : Nat), i + d = want.length → d + want.length + 1 < K →
    fareboxref13_Diff.l0 K want (i : Int) v l = some (if (want.drop i).all tokB = true then (if 1000 < (putAll [] want).length then (0, [], [], 2) else (v + 1, withoutS (putAll [] want) l, withoutS l (putAll [] want), 0)) else (0, [], [], 131)) := by
  induction d with
  | zero =>
    intro K i hi hK
    obtain ⟨K, rfl⟩ : ∃ m, K = m + 1 := ⟨K - 1, by omega⟩
    rw [fareboxref13_Diff.l0, List.drop_eq_nil_of_le (by omega)]
    rw [if_neg (by omega), if_pos (show ([] : List ByteArray).all tokB = true from rfl)]
    exact diff_l1 v l want hln hv hv0 hv1 hw want.length K 0 [] (by omega) (by omega) (by simp)
  | succ d ih =>
    intro K i hi hK
    obtain ⟨K, rfl⟩ : ∃ m, K = m + 1 := ⟨K - 1, by omega⟩
    have hlt : i < want.length := by omega
    have e2 : wrap64 ((i : Int) + 1) = ((i + 1 : Nat) : Int) := by rw [wrap_ok (n := want.length) (by omega) (by omega) (by omega)]; omega
    rw [fareboxref13_Diff.l0, List.drop_eq_getElem_cons hlt]
    rw [if_pos (by omega), if_pos (by omega), rd_nat want i hlt, e2, List.all_cons]
    by_cases h : tokB want[i] = true
    · rw [if_pos ((PR.tok_iff _).2 h), ih K (i + 1) (by omega) (by omega), h, Bool.true_and]
    · rw [if_neg (fun k => h ((PR.tok_iff _).1 k)), if_neg (by rw [Bool.eq_false_iff.2 h]; simp)]
theorem diff_total (hv1 : v ≤ 9223372036854775807) (hw : want.length ≤ 9223372036854775807) {K : Nat} (hK : want.length + want.length + 1 < K) : fareboxref13_Diff.f K v l want = some (diffS v l want) := by
  unfold fareboxref13_Diff.f fareboxref13_Right.f diffS
  simp only [Option.bind_some]
  by_cases h1 : rightS v l = 0
  · rw [if_pos h1, if_pos h1]
    have hG := good_iff.1 h1
    by_cases h2 : v = 9223372036854775807
    · rw [if_pos h2, if_pos h2]
    · rw [if_neg h2, if_neg h2]
      refine (diff_l0 v l want hG.len h2 hG.v0 hv1 hw want.length K 0 (by omega) (by omega)).trans (congrArg some ?_)
      have hp : putAll [] want = plusS want := by
        have := putAll_plus (o := []) (a := want) (by simp [Rise])
        simpa using this
      rw [List.drop_zero, hp]
      show (if toksB want = true then _ else _) = _
      by_cases h3 : toksB want = true
      · rw [if_pos h3, if_pos h3]
        by_cases h4 : 1000 < (plusS want).length
        · rw [if_pos h4, if_pos h4]
        · rw [if_neg h4, if_neg h4, without_eq (plus_rise want) hG.rise hG.small, without_eq hG.rise (plus_rise want) (by omega)]
      · rw [if_neg h3, if_neg h3]
  · rw [if_neg h1, if_neg h1]
end
end Go.Proofs.Ytodonkgheffibaa.PT
namespace Go.Proofs.Ytodonkgheffibaa.PU
open Go.RowKit Go.Proofs.Ytodonkgheffibaa.PA Go.Proofs.Ytodonkgheffibaa.PB Go.Proofs.Ytodonkgheffibaa.PC Go.Proofs.Ytodonkgheffibaa.PS Go.Proofs.Ytodonkgheffibaa.PJ Go.Proofs.Ytodonkgheffibaa.Hand Go.Proofs.Ytodonkgheffibaa.XS Go.Proofs.YtodonkgheffibaaW.PrintWords

theorem without_len (a b : List ByteArray) : (withoutS a b).length ≤ a.length := by
  have h1 := putAll_len [] (a.filter (fun x => !inS b x))
  have h2 := List.length_filter_le (fun x => !inS b x) a
  unfold withoutS
  simp at h1
  omega
section
variable (a0 : Int) (l1 l2 : List ByteArray) (b0 : Int) (m1 m2 : List ByteArray)
theorem join_l1 (v : Int) (X x11 : List ByteArray) (hx : x11.length ≤ 1000) (d : Nat) : ∀ (K i : Nat) (o : List ByteArray), i + d = x11.length → d < K → o.length ≤ 1000 + i →
    fareboxref13_Join.l1 K x11 (i : Int) v X o = some (if 1000 < X.length then (0, [], [], 2) else if 1000 < (putAll o (x11.drop i)).length then (0, [], [], 2) else (v, X, putAll o (x11.drop i), 0)) := by
  induction d with
  | zero =>
    intro K i o hi hK ho
    obtain ⟨K, rfl⟩ : ∃ m, K = m + 1 := ⟨K - 1, by omega⟩
    rw [fareboxref13_Join.l1, List.drop_eq_nil_of_le (by omega)]
    rw [if_neg (by omega)]
    show _ = some (if 1000 < X.length then (0, [], [], 2) else if 1000 < o.length then (0, [], [], 2) else (v, X, o, 0))
    by_cases h : 1000 < X.length
    · rw [if_pos (by omega), if_pos h]
    · rw [if_neg (by omega), if_neg h]
      by_cases h2 : 1000 < o.length
      · rw [if_pos (by omega), if_pos h2]
      · rw [if_neg (by omega), if_neg h2]
  | succ d ih =>
    intro K i o hi hK ho
    obtain ⟨K, rfl⟩ : ∃ m, K = m + 1 := ⟨K - 1, by omega⟩
    have hlt : i < x11.length := by omega
    have e2 : wrap64 ((i : Int) + 1) = ((i + 1 : Nat) : Int) := by rw [wrap_ok (n := x11.length) (by omega) (by omega) (by omega)]; omega
    rw [fareboxref13_Join.l1, List.drop_eq_getElem_cons hlt]
    rw [if_pos (by omega), if_pos (by omega), rd_nat x11 i hlt, e2]
    unfold fareboxref13_put.f
    rw [if_pos (by omega)]
    simp only [Option.bind_some]
    have hp := putS_len o x11[i]
    exact ih K (i + 1) (putS o x11[i]) (by omega) (by omega) (by omega)
theorem join_l0 (v : Int) (x9 y : List ByteArray) (hx : x9.length ≤ 1000) (hy : y.length ≤ 1000) (hm : m2.length ≤ 1000) (d : Nat) : ∀ (K i : Nat) (o : List ByteArray), i + d = x9.length → d + m2.length + 1 < K → o.length ≤ 1000 + i →
    fareboxref13_Join.l0 K x9 (i : Int) a0 l1 l2 b0 m1 m2 v o y = some (if 1000 < (putAll o (x9.drop i)).length then (0, [], [], 2) else if 1000 < (putAll y (withoutS m2 l1)).length then (0, [], [], 2) else (v, putAll o (x9.drop i), putAll y (withoutS m2 l1), 0)) := by
  induction d with
  | zero =>
    intro K i o hi hK ho
    obtain ⟨K, rfl⟩ : ∃ m, K = m + 1 := ⟨K - 1, by omega⟩
    rw [fareboxref13_Join.l0, List.drop_eq_nil_of_le (by omega)]
    rw [if_neg (by omega)]
    unfold fareboxref13_without.f
    rw [if_pos (by omega)]
    simp only [Option.bind_some]
    have hw := without_len m2 l1
    exact join_l1 v o (withoutS m2 l1) (by omega) (withoutS m2 l1).length K 0 y (by omega) (by omega) (by omega)
  | succ d ih =>
    intro K i o hi hK ho
    obtain ⟨K, rfl⟩ : ∃ m, K = m + 1 := ⟨K - 1, by omega⟩
    have hlt : i < x9.length := by omega
    have e2 : wrap64 ((i : Int) + 1) = ((i + 1 : Nat) : Int) := by rw [wrap_ok (n := x9.length) (by omega) (by omega) (by omega)]; omega
    rw [fareboxref13_Join.l0, List.drop_eq_getElem_cons hlt]
    rw [if_pos (by omega), if_pos (by omega), rd_nat x9 i hlt, e2]
    unfold fareboxref13_put.f
    rw [if_pos (by omega)]
    simp only [Option.bind_some]
    have hp := putS_len o x9[i]
    exact ih K (i + 1) (putS o x9[i]) (by omega) (by omega) (by omega)
theorem both_iff (a b : List ByteArray) (ha : Rise a) (hn : a.length ≤ 9223372036854775807) : bothS a b = true ↔ (lessS b a).length < b.length := by
  have h1 := less_all (a := b) ha hn
  have h2 := less_len b a
  have h3 : bothS a b = true ↔ ¬ ∀ x ∈ b, x ∉ a := by
    unfold bothS
    rw [List.any_eq_true]
    constructor
    · rintro ⟨x, hx, hb2⟩ h
      exact h x ((inS_iff b x).1 hb2) hx
    · intro h
      refine Classical.byContradiction fun h4 => h fun x hx hxa => h4 ⟨x, hxa, (inS_iff b x).2 hx⟩
  rw [h3, ← h1]
  omega
theorem join_total (K : Nat) (hK : l1.length + l2.length + m1.length + m2.length + 10 < K) : fareboxref13_Join.f K a0 l1 l2 b0 m1 m2 = some (joinS a0 l1 l2 b0 m1 m2) := by
  unfold fareboxref13_Join.f fareboxref08_DeltaRight.f joinS
  simp only [Option.bind_some]
  obtain ⟨K, rfl⟩ : ∃ m, K = m + 1 + 1 := ⟨K - 2, by omega⟩
  by_cases h1 : mayB a0 l1 l2 = true
  · rw [if_pos h1]
    by_cases h2 : mayB b0 m1 m2 = true
    · rw [if_pos ⟨h1, h2⟩, h2, fareboxref13_Join.j0]
      rw [if_neg (by simp)]
      obtain ⟨_, p1, p2, _⟩ := may_one h1
      obtain ⟨_, p3, p4, _⟩ := may_one h2
      obtain ⟨a1, _, a2⟩ := (part_iff l1).1 p1
      obtain ⟨a3, _, a4⟩ := (part_iff l2).1 p2
      obtain ⟨a5, _, a6⟩ := (part_iff m1).1 p3
      obtain ⟨a7, _, a8⟩ := (part_iff m2).1 p4
      have k1 := without_len l1 m2
      have k2 := without_len l2 m1
      have k3 := without_len m1 l2
      by_cases h3 : wrap64 (b0 - 1) = a0
      · rw [if_pos h3, if_pos h3]
        unfold fareboxref13_both.f
        simp only [Option.bind_some]
        have e1 := both_iff l1 m1 a2 (by omega)
        have e2 := both_iff l2 m2 a4 (by omega)
        by_cases h4 : (lessS m1 l1).length < m1.length
        · rw [if_pos (e1.2 h4), if_pos h4, fareboxref13_Join.j1]
          rw [if_pos rfl]
        · rw [if_neg (fun h => h4 (e1.1 h)), if_neg h4, fareboxref13_Join.j1]
          by_cases h5 : (lessS m2 l2).length < m2.length
          · rw [if_pos (e2.2 h5), if_pos h5]
          · rw [if_neg (fun h => h5 (e2.1 h)), if_neg h5]
            unfold fareboxref13_without.f
            rw [if_pos (by omega), if_pos (by omega), if_pos (by omega)]
            simp only [Option.bind_some]
            refine (join_l0 a0 l1 l2 b0 m1 m2 b0 (withoutS m1 l2) (withoutS l2 m1) (by omega) (by omega) a7 (withoutS m1 l2).length K 0 (withoutS l1 m2) (by omega) (by omega) (by omega)).trans (congrArg some ?_)
            have r1 : putAll (withoutS l1 m2) (withoutS m1 l2) = plusL (lessS l1 m2) (lessS m1 l2) := by
              rw [without_eq a2 a8 (by omega), without_eq a6 a4 (by omega), putAll_plus (less_rise a2)]
              rfl
            have r2 : putAll (withoutS l2 m1) (withoutS m2 l1) = plusL (lessS l2 m1) (lessS m2 l1) := by
              rw [without_eq a4 a6 (by omega), without_eq a8 a2 (by omega), putAll_plus (less_rise a4)]
              rfl
            rw [List.drop_zero, r1, r2]
      · rw [if_neg h3, if_neg h3]
    · rw [if_neg (fun h => h2 h.2), Bool.eq_false_iff.2 h2, fareboxref13_Join.j0]
      rw [if_pos (by rfl)]
  · rw [if_neg h1, if_neg (fun h => h1 h.1), fareboxref13_Join.j0]
    rw [if_pos rfl]
end
end Go.Proofs.Ytodonkgheffibaa.PU
namespace Go.Proofs.Ytodonkgheffibaa.PF
open Go.RowKit Go.Proofs.Ytodonkgheffibaa.PA Go.Proofs.Ytodonkgheffibaa.PB Go.Proofs.Ytodonkgheffibaa.PC Go.Proofs.Ytodonkgheffibaa.PJ Go.Proofs.Ytodonkgheffibaa.Hand Go.Proofs.Ytodonkgheffibaa.XJ Go.Proofs.YtodonkgheffibaaW.PrintWords Go.Proofs.YtodonkgheffibaaW.PrintLast

theorem less_f {l m : List ByteArray} (h : l.length ≤ 8796093022208) : risk_less_string.f l m = some (lessS l m) := by
  unfold risk_less_string.f
  rw [if_pos h]
theorem plus_f {l m : List ByteArray} (h : (l.length + m.length) * 16 ≤ 281474976710656) : risk_plus_string.f l m = some (plusL l m) := by
  unfold risk_plus_string.f
  rw [if_pos h]

theorem join_total (a0 : Int) (l1 l2 : List ByteArray) (b0 : Int) (m1 m2 : List ByteArray) (K : Nat) : risk_Join.f (K + 1) a0 l1 l2 b0 m1 m2 = some (joinS a0 l1 l2 b0 m1 m2) := by
  unfold risk_Join.f risk_may.f joinS
  simp only [Option.bind_some]
  by_cases h1 : mayB a0 l1 l2 = true
  · rw [if_pos h1]
    by_cases h2 : mayB b0 m1 m2 = true
    · rw [if_pos ⟨h1, h2⟩, h2, risk_Join.j0]
      rw [if_neg (by simp)]
      obtain ⟨q1, q2⟩ := may_len h1
      obtain ⟨q3, q4⟩ := may_len h2
      have k1 := less_len l1 m2
      have k2 := less_len m1 l2
      have k3 := less_len l2 m1
      have k4 := less_len m2 l1
      by_cases h3 : wrap64 (b0 - 1) = a0
      · rw [if_pos h3, if_pos h3, less_f (by omega), less_f (by omega), less_f (by omega), less_f (by omega), less_f (by omega), less_f (by omega)]
        simp only [Option.bind_some]
        rw [plus_f (by omega), plus_f (by omega)]
        simp only [Option.bind_some]
        by_cases h4 : (lessS m1 l1).length < m1.length
        · rw [if_pos (by omega), if_pos h4]
        · rw [if_neg (by omega), if_neg h4]
          by_cases h5 : (lessS m2 l2).length < m2.length
          · rw [if_pos (by omega), if_pos h5]
          · rw [if_neg (by omega), if_neg h5]
            by_cases h6 : 1000 < (plusL (lessS l1 m2) (lessS m1 l2)).length
            · rw [if_pos (by omega), if_pos h6]
            · rw [if_neg (by omega), if_neg h6]
              by_cases h7 : 1000 < (plusL (lessS l2 m1) (lessS m2 l1)).length
              · rw [if_pos (by omega), if_pos h7]
              · rw [if_neg (by omega), if_neg h7]
      · rw [if_neg h3, if_neg h3]
    · rw [if_neg (fun h => h2 h.2), Bool.eq_false_iff.2 h2, risk_Join.j0]
      rw [if_pos (by rfl)]
  · rw [if_neg h1, if_neg (fun h => h1 h.1), risk_Join.j0]
    rw [if_pos rfl]
end Go.Proofs.Ytodonkgheffibaa.PF
