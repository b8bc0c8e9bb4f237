/- The plain meaning of the printed functions over lists of texts: membership, rising, what is in one list and not in the other, put, without, both. -/
import Derived.Test.YtodonkgheffibaaXPx1
import Derived.Test.YtodonkgheffibaaPureB
import Derived.Test.YtodonkgheffibaaPureA
import Derived.WideShapes
import Derived.Sort.KeysCollected
namespace Go.Proofs.Ytodonkgheffibaa.PA
open Go.RowKit Go.Proofs.Ytodonkgheffibaa.XP Go.Proofs.YtodonkgheffibaaW.PrintWords Go.Proofs.YtodonkgheffibaaW.PrintLast
set_option linter.unusedVariables false
/-! fareboxref13.put, without, both -/
def putS : List ByteArray → ByteArray → List ByteArray
  | [], x => [x]
  | y :: r, x => if Op.bytesLess y.toList x.toList = true then y :: putS r x else if y.toList = x.toList then y :: r else x :: y :: r
theorem putS_len (l : List ByteArray) (x : ByteArray) : (putS l x).length ≤ l.length + 1 := by
  induction l with
  | nil => simp [putS]
  | cons y r ih =>
    unfold putS
    split
    · simp; omega
    · split <;> simp
theorem put_l0 (l : List ByteArray) (x : ByteArray) (hn : l.length + 1 < 8796093022208) (d : Nat) : ∀ (K i : Nat), i + d = l.length → d < K → fareboxref13_put.l0 K l x (i : Int) = some (l.take i ++ putS (l.drop i) x) := by
  induction d with
  | zero =>
    intro K i hi hK
    obtain ⟨K, rfl⟩ : ∃ m, K = m + 1 := ⟨K - 1, by omega⟩
    simp only [fareboxref13_put.l0, Option.bind_some]
    have h1 : List.take (Int.toNat (i : Int)) l = l := List.take_of_length_le (by omega)
    have h2 : List.drop (Int.toNat (i : Int)) l = [] := List.drop_eq_nil_of_le (by omega)
    rw [if_neg (by omega), if_pos (by omega), if_pos (by omega), h1, h2]
    rw [if_pos (by simp; omega), if_pos (by simp; omega), if_pos (by simp; omega), List.drop_eq_nil_of_le (by omega), List.take_of_length_le (by omega)]
    simp [putS]
  | succ d ih =>
    intro K i hi hK
    obtain ⟨K, rfl⟩ : ∃ m, K = m + 1 := ⟨K - 1, by omega⟩
    have hlt : i < l.length := by omega
    have e2 : wrap64 ((i : Int) + 1) = ((i + 1 : Nat) : Int) := by rw [wrap_ok (n := l.length) (by omega) (by omega) (by omega)]; omega
    have h1 : List.take (Int.toNat (i : Int)) l = l.take i := by rw [Int.toNat_natCast]
    have h2 : List.drop (Int.toNat (i : Int)) l = l.drop i := by rw [Int.toNat_natCast]
    have hd := List.drop_eq_getElem_cons hlt
    simp only [fareboxref13_put.l0, Option.bind_some, e2]
    rw [if_pos (by omega), if_pos (by omega), rd_nat l i hlt]
    by_cases h : Op.bytesLess l[i].toList x.toList = true
    · rw [if_pos h, ih K (i + 1) (by omega) (by omega)]
      conv => rhs; rw [hd]
      rw [putS, if_pos h, List.take_succ_eq_append_getElem hlt, List.append_assoc]
      rfl
    · rw [if_neg h]
      by_cases h3 : l[i].toList = x.toList
      · rw [if_pos h3]
        conv => rhs; rw [hd]
        rw [putS, if_neg h, if_pos h3, ← hd, List.take_append_drop]
      · rw [if_neg h3, if_pos (by omega), h1, h2]
        rw [if_pos (by simp; omega), if_pos (by simp; omega), if_pos (by simp; omega)]
        conv => rhs; rw [hd]
        rw [putS, if_neg h, if_neg h3, ← hd]
        simp
theorem put_total (l : List ByteArray) (x : ByteArray) (hn : l.length + 1 < 8796093022208) {K : Nat} (hK : l.length < K) : fareboxref13_put.f K l x = some (putS l x) := by
  unfold fareboxref13_put.f
  simpa using put_l0 l x hn l.length K 0 (by omega) hK
def putAll (o a : List ByteArray) : List ByteArray := a.foldl putS o
theorem putAll_len (o a : List ByteArray) : (putAll o a).length ≤ o.length + a.length := by
  unfold putAll
  induction a generalizing o with
  | nil => simp
  | cons x r ih =>
    have := ih (putS o x)
    have h2 := putS_len o x
    simp
    omega
def withoutS (a b : List ByteArray) : List ByteArray := putAll [] (a.filter (fun x => !inS b x))
theorem without_l0 (a b : List ByteArray) (hb : b.length ≤ 9223372036854775807) (ha : a.length + 1 < 8796093022208) (d : Nat) : ∀ (K i : Nat) (o : List ByteArray), i + d = a.length → a.length + d + b.length < K → o.length ≤ i →
    fareboxref13_without.l0 K a b o (i : Int) = some (putAll o ((a.drop i).filter (fun x => !inS b x))) := by
  induction d with
  | zero =>
    intro K i o hi hK ho
    obtain ⟨K, rfl⟩ : ∃ m, K = m + 1 := ⟨K - 1, by omega⟩
    simp only [fareboxref13_without.l0]
    rw [if_neg (by omega), List.drop_eq_nil_of_le (by omega)]
    simp [putAll]
  | succ d ih =>
    intro K i o hi hK ho
    obtain ⟨K, rfl⟩ : ∃ m, K = m + 1 := ⟨K - 1, by omega⟩
    have hlt : i < a.length := by omega
    have e2 : wrap64 ((i : Int) + 1) = ((i + 1 : Nat) : Int) := by rw [wrap_ok (n := a.length) (by omega) (by omega) (by omega)]; omega
    simp only [fareboxref13_without.l0, e2]
    rw [if_pos (by omega), if_pos (by omega), rd_nat a i hlt, show fareboxref13_in.f b a[i] = some (inS b a[i]) from rfl, List.drop_eq_getElem_cons hlt]
    simp only [Option.bind_some]
    by_cases h : inS b a[i] = true
    · rw [if_pos h, ih K (i + 1) o (by omega) (by omega) (by omega)]
      simp only [List.filter_cons, h, Bool.not_true, Bool.false_eq_true, if_false]
    · have hp := putS_len o a[i]
      rw [if_neg h, put_total o a[i] (by omega) (by omega)]
      simp only [Option.bind_some]
      rw [ih K (i + 1) _ (by omega) (by omega) (by omega)]
      simp only [List.filter_cons, h, Bool.not_false, if_true, putAll, List.foldl_cons]
theorem without_total (a b : List ByteArray) (hb : b.length ≤ 9223372036854775807) (ha : a.length + 1 < 8796093022208) {K : Nat} (hK : a.length + a.length + b.length < K) : fareboxref13_without.f K a b = some (withoutS a b) := by
  unfold fareboxref13_without.f
  simpa [withoutS] using without_l0 a b hb ha a.length K 0 [] (by omega) (by omega) (by simp)
def bothS (a b : List ByteArray) : Bool := a.any (inS b)
theorem both_l0 (a b : List ByteArray) (hb : b.length ≤ 9223372036854775807) (ha : a.length ≤ 9223372036854775807) (d : Nat) : ∀ (K i : Nat), i + d = a.length → d + b.length < K →
    fareboxref13_both.l0 K a b (i : Int) = some (bothS (a.drop i) b) := by
  induction d with
  | zero =>
    intro K i hi hK
    obtain ⟨K, rfl⟩ : ∃ m, K = m + 1 := ⟨K - 1, by omega⟩
    simp only [fareboxref13_both.l0]
    rw [if_neg (by omega), List.drop_eq_nil_of_le (by omega)]
    simp [bothS]
  | succ d ih =>
    intro K i hi hK
    obtain ⟨K, rfl⟩ : ∃ m, K = m + 1 := ⟨K - 1, by omega⟩
    have hlt : i < a.length := by omega
    have e2 : wrap64 ((i : Int) + 1) = ((i + 1 : Nat) : Int) := by rw [wrap_ok (n := a.length) (by omega) (by omega) (by omega)]; omega
    simp only [fareboxref13_both.l0, e2]
    rw [if_pos (by omega), if_pos (by omega), rd_nat a i hlt, show fareboxref13_in.f b a[i] = some (inS b a[i]) from rfl, List.drop_eq_getElem_cons hlt]
    simp only [Option.bind_some]
    by_cases h : inS b a[i] = true
    · rw [if_pos h]
      simp only [bothS, List.any_cons, h, Bool.true_or]
    · rw [if_neg h, ih K (i + 1) (by omega) (by omega)]
      simp only [bothS, List.any_cons, h, Bool.false_or]
theorem both_total (a b : List ByteArray) (hb : b.length ≤ 9223372036854775807) (ha : a.length ≤ 9223372036854775807) {K : Nat} (hK : a.length + b.length < K) : fareboxref13_both.f K a b = some (bothS a b) := by
  unfold fareboxref13_both.f
  simpa using both_l0 a b hb ha a.length K 0 (by omega) hK
end Go.Proofs.Ytodonkgheffibaa.PA
namespace Go.Proofs.Ytodonkgheffibaa.PS
open Go.RowKit Go.Proofs.Ytodonkgheffibaa.PA Go.Proofs.Ytodonkgheffibaa.PB Go.Proofs.Ytodonkgheffibaa.Hand
theorem mem_put (l : List ByteArray) (x z : ByteArray) : z ∈ putS l x ↔ z ∈ l ∨ z = x := by
  induction l with
  | nil => simp [putS]
  | cons y r ih =>
    unfold putS
    by_cases h1 : Op.bytesLess y.toList x.toList = true
    · rw [if_pos h1, List.mem_cons, ih, List.mem_cons, or_assoc]
    · rw [if_neg h1]
      by_cases h2 : y.toList = x.toList
      · rw [if_pos h2, List.mem_cons, toList_inj.1 h2]
        constructor
        · intro h; exact .inl h
        · rintro (h | h)
          · exact h
          · exact .inl h
      · rw [if_neg h2]
        simp only [List.mem_cons]
        constructor
        · rintro (h | h)
          · exact .inr h
          · exact .inl h
        · rintro (h | h)
          · exact .inr h
          · exact .inl h
theorem put_rise {l : List ByteArray} (x : ByteArray) (h : Rise l) : Rise (putS l x) := by
  induction l with
  | nil => simp [putS, Rise]
  | cons y r ih =>
    obtain ⟨hy, hr⟩ := List.pairwise_cons.1 h
    unfold putS
    by_cases h1 : Op.bytesLess y.toList x.toList = true
    · rw [if_pos h1]
      refine List.pairwise_cons.2 ⟨fun z hz => ?_, ih hr⟩
      rcases (mem_put r x z).1 hz with hz | rfl
      · exact hy z hz
      · rw [bytesLess_eq] at h1
        exact of_decide_eq_true h1
    · rw [if_neg h1]
      by_cases h2 : y.toList = x.toList
      · rw [if_pos h2]
        exact h
      · rw [if_neg h2]
        have hx : x.toList < y.toList := Classical.byContradiction fun h3 => h2 (List.le_antisymm h3 (fun h4 => h1 (by rw [bytesLess_eq]; exact decide_eq_true h4)))
        refine List.pairwise_cons.2 ⟨fun z hz => ?_, h⟩
        rcases List.mem_cons.1 hz with rfl | hz
        · exact hx
        · exact List.lt_trans hx (hy z hz)
theorem mem_putAll (a : List ByteArray) : ∀ (o : List ByteArray) (z : ByteArray), z ∈ putAll o a ↔ z ∈ o ∨ z ∈ a := by
  induction a with
  | nil => intro o z; simp [putAll]
  | cons x r ih =>
    intro o z
    show z ∈ putAll (putS o x) r ↔ _
    rw [ih, mem_put, List.mem_cons, or_assoc]
theorem putAll_rise (a : List ByteArray) : ∀ {o : List ByteArray}, Rise o → Rise (putAll o a) := by
  induction a with
  | nil => intro o h; exact h
  | cons x r ih => intro o h; exact ih (put_rise x h)
theorem without_rise (a b : List ByteArray) : Rise (withoutS a b) := putAll_rise _ (by simp [Rise])
theorem mem_without (a b : List ByteArray) (z : ByteArray) : z ∈ withoutS a b ↔ z ∈ a ∧ z ∉ b := by
  unfold withoutS
  rw [mem_putAll, List.mem_filter]
  simp only [List.not_mem_nil, false_or, Bool.not_eq_true', inS_false_iff]
theorem without_eq {a b : List ByteArray} (ha : Rise a) (hb : Rise b) (hn : b.length ≤ 9223372036854775807) : withoutS a b = lessS a b :=
  rise_ext (without_rise a b) (less_rise ha) fun x => by rw [mem_without, mem_less hb hn]
theorem putAll_plus {o a : List ByteArray} (ho : Rise o) : putAll o a = plusS (o ++ a) :=
  rise_ext (putAll_rise a ho) (plus_rise _) fun x => by rw [mem_putAll, mem_plus, List.mem_append]

end Go.Proofs.Ytodonkgheffibaa.PS
