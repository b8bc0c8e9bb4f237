/- The plain meaning of the printed functions over lists of texts: membership, rising, what is in one list and not in the other, put, without, both. -/
import Derived.Test.YtodonkgheffibaaXAx
import Derived.WideShapes
import Derived.Sort.KeysCollected
namespace Go.Proofs.Ytodonkgheffibaa.PA
open Go.RowKit Go.Proofs.Ytodonkgheffibaa.XA Go.Proofs.YtodonkgheffibaaW.PrintWords Go.Proofs.YtodonkgheffibaaW.PrintLast

theorem wrap_ok {i n : Int} (h0 : -1 ≤ i) (h : i ≤ n) (hn : n ≤ 9223372036854775807) : wrap64 i = i := by unfold wrap64; omega
theorem toList_inj {a b : ByteArray} : a.toList = b.toList ↔ a = b := by
  constructor
  · intro h
    rw [ByteArray.toList_eq, ByteArray.toList_eq] at h
    exact Go.WideShapes.bytes_inj h
  · rintro rfl; rfl

def eqB (a b : ByteArray) : Bool := a.toList == b.toList
def inS (l : List ByteArray) (x : ByteArray) : Bool := l.any (fun y => y.toList == x.toList)
def ltB (a b : ByteArray) : Bool := Op.bytesLess a.toList b.toList
def risingS : List ByteArray → Bool
  | a :: b :: r => ltB a b && risingS (b :: r)
  | _ => true

theorem rd_nat (l : List ByteArray) (k : Nat) (h : k < l.length) : rdOf ByteArray.empty l (k : Int) = l[k] := by simp [rdOf, List.getD_eq_getElem?_getD, h]

theorem in_l0 (l : List ByteArray) (x : ByteArray) (hn : l.length ≤ 9223372036854775807) (d : Nat) : ∀ (K i : Nat), i + d = l.length → d < K → fareboxref13_in.l0 K l x (i : Int) = some (inS (l.drop i) x) := by
  induction d with
  | zero =>
    intro K i hi hK
    obtain ⟨K, rfl⟩ : ∃ m, K = m + 1 := ⟨K - 1, by omega⟩
    simp only [fareboxref13_in.l0]
    rw [if_neg (by omega), List.drop_eq_nil_of_le (by omega)]
    rfl
  | succ d ih =>
    intro K i hi hK
    obtain ⟨K, rfl⟩ : ∃ m, K = m + 1 := ⟨K - 1, by omega⟩
    have hlt : i < l.length := by omega
    simp only [fareboxref13_in.l0]
    rw [if_pos (by omega), if_pos (by omega), rd_nat l i hlt, wrap_ok (n := l.length) (by omega) (by omega) (by omega), List.drop_eq_getElem_cons hlt]
    by_cases h : l[i].toList = x.toList
    · rw [if_pos h]
      simp only [inS, List.any_cons, beq_iff_eq.2 h, Bool.true_or]
    · rw [if_neg h, show ((i : Int) + 1) = ((i + 1 : Nat) : Int) from by omega, ih K (i + 1) (by omega) (by omega)]
      simp only [inS, List.any_cons, beq_eq_false_iff_ne.2 h, Bool.false_or]
theorem in_total (l : List ByteArray) (x : ByteArray) (hn : l.length ≤ 9223372036854775807) {K : Nat} (hK : l.length < K) : fareboxref13_in.f K l x = some (inS l x) := in_l0 l x hn l.length K 0 (by omega) hK

/-! slices.Contains -/
theorem index_l0 (l : List ByteArray) (x : ByteArray) (hn : l.length ≤ 9223372036854775807) (d : Nat) : ∀ (K i : Nat), i + d = l.length → d < K → ∃ r : Int, slices_Index_string_string.l0 K l x (l.length : Int) (i : Int) = some r ∧ decide (r ≥ 0) = inS (l.drop i) x := by
  induction d with
  | zero =>
    intro K i hi hK
    obtain ⟨K, rfl⟩ : ∃ m, K = m + 1 := ⟨K - 1, by omega⟩
    refine ⟨-1, ?_, ?_⟩
    · simp only [slices_Index_string_string.l0]
      rw [if_neg (by omega)]
    · rw [List.drop_eq_nil_of_le (by omega)]
      rfl
  | succ d ih =>
    intro K i hi hK
    obtain ⟨K, rfl⟩ : ∃ m, K = m + 1 := ⟨K - 1, by omega⟩
    have hlt : i < l.length := by omega
    simp only [slices_Index_string_string.l0]
    rw [if_pos (by omega), if_pos (by omega), if_pos (by omega), rd_nat l i hlt, wrap_ok (n := l.length) (by omega) (by omega) (by omega), List.drop_eq_getElem_cons hlt]
    by_cases h : l[i].toList = x.toList
    · rw [if_pos h.symm]
      refine ⟨i, rfl, ?_⟩
      simp only [inS, List.any_cons, beq_iff_eq.2 h, Bool.true_or]
      simp
    · rw [if_neg (fun e => h e.symm), show ((i : Int) + 1) = ((i + 1 : Nat) : Int) from by omega]
      obtain ⟨r, h1, h2⟩ := ih K (i + 1) (by omega) (by omega)
      refine ⟨r, h1, ?_⟩
      rw [h2]
      simp only [inS, List.any_cons, beq_eq_false_iff_ne.2 h, Bool.false_or]
theorem contains_total (l : List ByteArray) (x : ByteArray) (hn : l.length ≤ 9223372036854775807) {K : Nat} (hK : l.length < K) : slices_Contains_string_string.f K l x = some (inS l x) := by
  obtain ⟨r, h1, h2⟩ := index_l0 l x hn l.length K 0 (by omega) hK
  unfold slices_Contains_string_string.f slices_Index_string_string.f
  rw [show (0 : Int) = ((0 : Nat) : Int) from rfl, h1]
  simp only [Option.bind_some]
  rw [show ((0 : Nat) : Int) = (0 : Int) from rfl, h2]
  rfl

/-! risk.rising -/
theorem rising_l0 (l : List ByteArray) (hn : l.length ≤ 9223372036854775807) (d : Nat) : ∀ (K i : Nat), i + 1 + d = l.length → d < K → risk_rising_string.l0 K l ((i + 1 : Nat) : Int) = some (risingS (l.drop i)) := by
  induction d with
  | zero =>
    intro K i hi hK
    obtain ⟨K, rfl⟩ : ∃ m, K = m + 1 := ⟨K - 1, by omega⟩
    simp only [risk_rising_string.l0]
    rw [if_neg (by omega), List.drop_eq_getElem_cons (show i < l.length by omega), List.drop_eq_nil_of_le (by omega)]
    rfl
  | succ d ih =>
    intro K i hi hK
    obtain ⟨K, rfl⟩ : ∃ m, K = m + 1 := ⟨K - 1, by omega⟩
    have hlt : i < l.length := by omega
    have hlt1 : i + 1 < l.length := by omega
    have e1 : wrap64 (((i + 1 : Nat) : Int) - 1) = (i : Int) := by rw [wrap_ok (n := l.length) (by omega) (by omega) (by omega)]; omega
    have e2 : wrap64 (((i + 1 : Nat) : Int) + 1) = ((i + 1 + 1 : Nat) : Int) := by rw [wrap_ok (n := l.length) (by omega) (by omega) (by omega)]; omega
    simp only [risk_rising_string.l0, e1, e2]
    rw [if_pos (by omega), if_pos (by omega), if_pos (by omega), if_pos (by omega), rd_nat l i hlt, rd_nat l (i + 1) hlt1, List.drop_eq_getElem_cons hlt, List.drop_eq_getElem_cons hlt1]
    by_cases h : Op.bytesLess l[i].toList l[i + 1].toList = true
    · rw [if_pos h, ih K (i + 1) (by omega) (by omega), List.drop_eq_getElem_cons hlt1]
      simp only [risingS, ltB, h, Bool.true_and]
    · rw [if_neg h]
      simp only [risingS, ltB, h, Bool.false_and]
theorem rising_total (l : List ByteArray) (hn : l.length ≤ 9223372036854775807) {K : Nat} (hK : l.length < K) : risk_rising_string.f K l = some (risingS l) := by
  unfold risk_rising_string.f
  rcases l with _ | ⟨a, r⟩
  · obtain ⟨K, rfl⟩ : ∃ m, K = m + 1 := ⟨K - 1, by simp at hK; omega⟩
    simp [risk_rising_string.l0, risingS]
  · exact rising_l0 (a :: r) hn r.length K 0 (by simp; omega) (by simp at hK; omega)

/-! fareboxref13.SameTokens -/
def sameS (a b : List ByteArray) : Bool := a.map ByteArray.toList == b.map ByteArray.toList
theorem same_l0 (a b : List ByteArray) (hl : a.length = b.length) (hn : a.length ≤ 9223372036854775807) (d : Nat) : ∀ (K i : Nat), i + d = a.length → d < K → fareboxref13_SameTokens.l0 K a b (i : Int) = some (sameS (a.drop i) (b.drop i)) := by
  induction d with
  | zero =>
    intro K i hi hK
    obtain ⟨K, rfl⟩ : ∃ m, K = m + 1 := ⟨K - 1, by omega⟩
    simp only [fareboxref13_SameTokens.l0]
    rw [if_neg (by omega), List.drop_eq_nil_of_le (by omega), List.drop_eq_nil_of_le (by omega)]
    rfl
  | succ d ih =>
    intro K i hi hK
    obtain ⟨K, rfl⟩ : ∃ m, K = m + 1 := ⟨K - 1, by omega⟩
    have ha : i < a.length := by omega
    have hb : i < b.length := by omega
    have e2 : wrap64 ((i : Int) + 1) = ((i + 1 : Nat) : Int) := by rw [wrap_ok (n := a.length) (by omega) (by omega) (by omega)]; omega
    simp only [fareboxref13_SameTokens.l0, e2]
    rw [if_pos (by omega), if_pos (by omega), if_pos (by omega), rd_nat a i ha, rd_nat b i hb, List.drop_eq_getElem_cons ha, List.drop_eq_getElem_cons hb]
    by_cases h : a[i].toList = b[i].toList
    · rw [if_pos h, ih K (i + 1) (by omega) (by omega)]
      simp only [sameS, List.map_cons, h, List.cons_beq_cons, beq_self_eq_true, Bool.true_and]
    · rw [if_neg h]
      simp only [sameS, List.map_cons, List.cons_beq_cons, beq_eq_false_iff_ne.2 h, Bool.false_and]
theorem same_total (a b : List ByteArray) (hn : a.length ≤ 9223372036854775807) {K : Nat} (hK : a.length < K) : fareboxref13_SameTokens.f K a b = some (sameS a b) := by
  unfold fareboxref13_SameTokens.f
  by_cases h : (a.length : Int) = (b.length : Int)
  · rw [if_pos h]
    exact same_l0 a b (by omega) hn a.length K 0 (by omega) hK
  · rw [if_neg h]
    congr 1
    symm
    unfold sameS
    rw [beq_eq_false_iff_ne]
    intro e
    have := congrArg List.length e
    simp at this
    omega
theorem sameS_iff (a b : List ByteArray) : sameS a b = true ↔ a = b := by
  unfold sameS
  rw [beq_iff_eq]
  constructor
  · intro h
    exact List.map_inj_right (fun x y => toList_inj.1) |>.1 h
  · rintro rfl; rfl

/-! slices.BinarySearch and risk.less -/
theorem bytesLess_eq : ∀ (x y : List UInt8), Op.bytesLess x y = decide (x < y)
  | [], [] => by simp [Op.bytesLess]
  | _ :: _, [] => by simp [Op.bytesLess]
  | [], _ :: _ => by simp [Op.bytesLess]
  | a :: x, b :: y => by
    rw [Op.bytesLess, bytesLess_eq x y]
    simp only [List.cons_lt_cons_iff]
    by_cases h : a < b
    · simp [h]
    · by_cases e : a = b
      · simp [e]
      · simp [h, e]
theorem lt_iff (a b : ByteArray) : ltB a b = true ↔ a.toList < b.toList := by
  unfold ltB
  rw [bytesLess_eq]
  simp
def Sorted (l : List ByteArray) : Prop := ∀ i j, (hi : i < l.length) → (hj : j < l.length) → i < j → l[i].toList < l[j].toList
theorem less_false (a b : ByteArray) : cmp_Less_string.f a b = some (ltB a b) := by
  unfold cmp_Less_string.f cmp_isNaN_string.f
  simp [ltB]
theorem nan_false (a : ByteArray) : slices_isNaN_string.f a = some false := by
  unfold slices_isNaN_string.f
  simp
theorem inS_iff (l : List ByteArray) (x : ByteArray) : inS l x = true ↔ x ∈ l := by
  unfold inS
  rw [List.any_eq_true]
  constructor
  · rintro ⟨y, hy, h⟩
    rw [beq_iff_eq] at h
    rw [← toList_inj.1 h]
    exact hy
  · intro h
    exact ⟨x, h, beq_self_eq_true _⟩
theorem inS_false_iff (l : List ByteArray) (x : ByteArray) : inS l x = false ↔ x ∉ l := by
  rw [← inS_iff]
  cases inS l x <;> simp

theorem bs_l0 (l : List ByteArray) (x : ByteArray) (hn : l.length ≤ 9223372036854775807) (d : Nat) : ∀ (lo hi : Nat), lo ≤ hi → hi ≤ l.length → hi - lo ≤ d →
    ∃ r : Int × Bool, (∀ K, d < K → slices_BinarySearch_string_string.l0 K l x (l.length : Int) (lo : Int) (hi : Int) = some r) ∧
      (Sorted l → (∀ i, (h : i < l.length) → i < lo → l[i].toList < x.toList) → (∀ i, (h : i < l.length) → hi ≤ i → ¬ l[i].toList < x.toList) → r.2 = inS l x) := by
  induction d with
  | zero =>
    intro lo hi h1 h2 h3
    obtain rfl : lo = hi := by omega
    by_cases hlt : lo < l.length
    · refine ⟨(lo, decide (l[lo].toList = x.toList)), fun K hK => ?_, fun hs hlo hhi => ?_⟩
      · obtain ⟨K, rfl⟩ : ∃ m, K = m + 1 := ⟨K - 1, by omega⟩
        simp only [slices_BinarySearch_string_string.l0]
        rw [if_neg (by omega), if_pos (by omega), if_pos (by omega), if_pos (by omega), rd_nat l lo hlt]
        by_cases he : l[lo].toList = x.toList
        · rw [if_pos he]; simp [he]
        · rw [if_neg he, nan_false]; simp [he]
      · rw [Bool.eq_iff_iff, inS_iff]
        simp only [decide_eq_true_eq]
        constructor
        · intro he
          rw [← toList_inj.1 he]
          exact List.getElem_mem _
        · intro hm
          obtain ⟨i, hi, he⟩ := List.getElem_of_mem hm
          rcases Nat.lt_trichotomy i lo with h | h | h
          · have := hlo i hi h
            rw [he] at this
            exact absurd this (List.lt_irrefl _)
          · subst h; rw [he]
          · have h5 := hs lo i hlt hi h
            rw [he] at h5
            exact absurd h5 (hhi lo hlt (Nat.le_refl _))
    · refine ⟨(lo, false), fun K hK => ?_, fun hs hlo hhi => ?_⟩
      · obtain ⟨K, rfl⟩ : ∃ m, K = m + 1 := ⟨K - 1, by omega⟩
        simp only [slices_BinarySearch_string_string.l0]
        rw [if_neg (by omega), if_neg (by omega)]
      · symm
        rw [inS_false_iff]
        intro hm
        obtain ⟨i, hi, he⟩ := List.getElem_of_mem hm
        have := hlo i hi (by omega)
        rw [he] at this
        exact List.lt_irrefl _ this
  | succ d ih =>
    intro lo hi h1 h2 h3
    by_cases heq : lo = hi
    · obtain ⟨r, hr, hp⟩ := ih lo hi h1 h2 (by omega)
      exact ⟨r, fun K hK => hr K (by omega), hp⟩
    · have hmid : wrap64 ((IntKind.u64.wrap (wrap64 ((lo : Int) + (hi : Int)))) / 2) = (((lo + hi) / 2 : Nat) : Int) := by
        have : IntKind.u64.wrap (wrap64 ((lo : Int) + (hi : Int))) = (lo : Int) + (hi : Int) := by
          rw [show IntKind.u64.wrap (wrap64 ((lo : Int) + (hi : Int))) = (wrap64 ((lo : Int) + (hi : Int))) % 18446744073709551616 from by rw [IntKind.wrap_u64]]
          unfold wrap64
          omega
        rw [this]
        unfold wrap64
        omega
      have hm1 : lo ≤ (lo + hi) / 2 := by omega
      have hm2 : (lo + hi) / 2 < hi := by omega
      have hm3 : (lo + hi) / 2 < l.length := by omega
      have e2 : wrap64 ((((lo + hi) / 2 : Nat) : Int) + 1) = (((lo + hi) / 2 + 1 : Nat) : Int) := by rw [wrap_ok (n := l.length) (by omega) (by omega) (by omega)]; omega
      by_cases hc : ltB l[(lo + hi) / 2] x = true
      · obtain ⟨r, hr, hp⟩ := ih ((lo + hi) / 2 + 1) hi (by omega) h2 (by omega)
        refine ⟨r, fun K hK => ?_, fun hs hlo hhi => hp hs (fun i hi2 hlt => ?_) hhi⟩
        · obtain ⟨K, rfl⟩ : ∃ m, K = m + 1 := ⟨K - 1, by omega⟩
          simp only [slices_BinarySearch_string_string.l0, hmid, e2]
          rw [if_pos (by omega), if_pos (by omega), if_pos (by omega), rd_nat l _ hm3, less_false]
          simp only [Option.bind_some]
          rw [if_pos hc]
          exact hr K (by omega)
        · rw [lt_iff] at hc
          rcases Nat.lt_or_ge i ((lo + hi) / 2) with h | h
          · exact List.lt_trans (hs i _ hi2 hm3 h) hc
          · obtain rfl : i = (lo + hi) / 2 := by omega
            exact hc
      · obtain ⟨r, hr, hp⟩ := ih lo ((lo + hi) / 2) (by omega) (by omega) (by omega)
        refine ⟨r, fun K hK => ?_, fun hs hlo hhi => hp hs hlo (fun i hi2 hle => ?_)⟩
        · obtain ⟨K, rfl⟩ : ∃ m, K = m + 1 := ⟨K - 1, by omega⟩
          simp only [slices_BinarySearch_string_string.l0, hmid, e2]
          rw [if_pos (by omega), if_pos (by omega), if_pos (by omega), rd_nat l _ hm3, less_false]
          simp only [Option.bind_some]
          rw [if_neg hc]
          exact hr K (by omega)
        · rw [lt_iff] at hc
          rcases Nat.lt_or_ge ((lo + hi) / 2) i with h | h
          · intro hlt
            exact hc (List.lt_trans (hs _ i hm3 hi2 h) hlt)
          · obtain rfl : i = (lo + hi) / 2 := by omega
            exact hc
/-- Is x found by halving? -/
def bsS (l : List ByteArray) (x : ByteArray) : Bool := ((slices_BinarySearch_string_string.f (l.length + 1) l x).getD (0, false)).2
theorem bs_total (l : List ByteArray) (x : ByteArray) (hn : l.length ≤ 9223372036854775807) : ∃ i : Int, ∀ K, l.length < K → slices_BinarySearch_string_string.f K l x = some (i, bsS l x) := by
  obtain ⟨r, hr, _⟩ := bs_l0 l x hn l.length 0 l.length (by omega) (by omega) (by omega)
  refine ⟨r.1, fun K hK => ?_⟩
  have e : bsS l x = r.2 := by
    unfold bsS slices_BinarySearch_string_string.f
    rw [show (0 : Int) = ((0 : Nat) : Int) from rfl, hr _ (by omega)]
    rfl
  rw [e]
  exact hr K hK
theorem bs_sorted (l : List ByteArray) (x : ByteArray) (hn : l.length ≤ 9223372036854775807) (hs : Sorted l) : bsS l x = inS l x := by
  obtain ⟨r, hr, hp⟩ := bs_l0 l x hn l.length 0 l.length (by omega) (by omega) (by omega)
  rw [← hp hs (fun i h1 h2 => absurd h2 (by omega)) (fun i h1 h2 => absurd h1 (by omega))]
  unfold bsS slices_BinarySearch_string_string.f
  rw [show (0 : Int) = ((0 : Nat) : Int) from rfl, hr _ (by omega)]
  rfl
/-- What less answers. -/
def lessS (a b : List ByteArray) : List ByteArray := a.filter (fun x => !bsS b x)
theorem less_l0 (a b : List ByteArray) (hb : b.length ≤ 9223372036854775807) (ha : a.length ≤ 8796093022208) (d : Nat) : ∀ (K i : Nat) (o : List ByteArray), i + d = a.length → d + b.length < K → o.length ≤ i →
    risk_less_string.l0 K b o a (a.length : Int) (i : Int) = some (o ++ lessS (a.drop i) b) := by
  induction d with
  | zero =>
    intro K i o hi hK ho
    obtain ⟨K, rfl⟩ : ∃ m, K = m + 1 := ⟨K - 1, by omega⟩
    simp only [risk_less_string.l0]
    rw [if_neg (by omega), List.drop_eq_nil_of_le (by omega)]
    simp [lessS]
  | succ d ih =>
    intro K i o hi hK ho
    obtain ⟨K, rfl⟩ : ∃ m, K = m + 1 := ⟨K - 1, by omega⟩
    have hlt : i < a.length := by omega
    have e2 : wrap64 ((i : Int) + 1) = ((i + 1 : Nat) : Int) := by rw [wrap_ok (n := a.length) (by omega) (by omega) (by omega)]; omega
    obtain ⟨q, hq⟩ := bs_total b a[i] hb
    simp only [risk_less_string.l0, e2]
    rw [if_pos (by omega), if_pos (by omega), if_pos (by omega), rd_nat a i hlt, hq K (by omega), List.drop_eq_getElem_cons hlt]
    simp only [Option.bind_some]
    by_cases h : bsS b a[i] = true
    · rw [if_pos h, ih K (i + 1) o (by omega) (by omega) (by omega)]
      simp only [lessS, List.filter_cons, h, Bool.not_true, Bool.false_eq_true, if_false]
    · rw [if_neg h, if_pos (by omega), ih K (i + 1) _ (by omega) (by omega) (by simp; omega)]
      simp only [lessS, List.filter_cons, h, Bool.not_false, if_true]
      simp
theorem less_total (a b : List ByteArray) (hb : b.length ≤ 9223372036854775807) (ha : a.length ≤ 8796093022208) {K : Nat} (hK : a.length + b.length < K) : risk_less_string.f K a b = some (lessS a b) := by
  unfold risk_less_string.f
  have := less_l0 a b hb ha a.length K 0 [] (by omega) (by omega) (by simp)
  simpa using this

end Go.Proofs.Ytodonkgheffibaa.PA
