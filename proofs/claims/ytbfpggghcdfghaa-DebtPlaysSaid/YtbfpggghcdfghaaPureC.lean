/- Where an account stands in a book, or would: in plain words. -/
import Derived.Test.YtbfpggghcdfghaaPureB
namespace Go.Proofs.Ytbfpggghcdfghaa.PA
open Go.Maps Go.WideShapes Go.Proofs.Ytbfpggghcdfghaa.Hand

structure Stand (m : List Acct) (t : ByteArray) (K : Nat) : Prop where
  le : K ≤ m.length
  low : ∀ x ∈ m.take K, lt x.1 t
  high : ∀ h : K < m.length, ¬ lt m[K].1 t
theorem ins_mid {x : Acct} : ∀ {a b : List Acct}, (∀ y ∈ a, lt y.1 x.1) → (∀ y ∈ b, lt x.1 y.1) → insS x (a ++ b) = a ++ x :: b
  | [], [], _, _ => rfl
  | [], y :: r, _, h => by
    show (if bytesBefore (toL x.1) (toL y.1) = true then x :: y :: r else y :: insS x r) = _
    have hb : bytesBefore (toL x.1) (toL y.1) = true := h y (by simp)
    rw [if_pos hb]
    rfl
  | y :: a, b, h, k => by
    show (if bytesBefore (toL x.1) (toL y.1) = true then x :: y :: (a ++ b) else y :: insS x (a ++ b)) = _
    have hb : ¬ bytesBefore (toL x.1) (toL y.1) = true := lt_asymm (h y (by simp))
    rw [if_neg hb, ins_mid (fun z hz => h z (by simp [hz])) k]
    rfl
theorem Stand.here {m : List Acct} {t : ByteArray} {K : Nat} (_ : Stand m t K) (hr : Rise m) (hK : K < m.length) (he : m[K].1 = t) : getS m t = some m[K].2 := by
  have : (t, m[K].2.1, m[K].2.2) ∈ m := by
    have h := List.getElem_mem hK
    have e : m[K] = (t, m[K].2.1, m[K].2.2) := by rw [← he]
    rw [e] at h
    exact h
  exact (rise_get_mem hr).2 this
theorem Stand.above {m : List Acct} {t : ByteArray} {K : Nat} (h : Stand m t K) (hr : Rise m) (hn : ∀ hK : K < m.length, m[K].1 ≠ t) : ∀ x ∈ m.drop K, lt t x.1 := by
  intro x hx
  obtain ⟨i, hi, rfl⟩ := List.mem_iff_getElem.1 hx
  rw [List.length_drop] at hi
  have hK : K < m.length := by omega
  have h0 : lt t m[K].1 := by
    rcases lt_total (hn hK) with h1 | h1
    · exact absurd h1 (h.high hK)
    · exact h1
  rw [List.getElem_drop]
  by_cases e : i = 0
  · subst e; simpa using h0
  · exact lt_trans h0 (List.pairwise_iff_getElem.1 hr K (K + i) hK (by omega) (by omega))
theorem Stand.none {m : List Acct} {t : ByteArray} {K : Nat} (h : Stand m t K) (hr : Rise m) (hn : ∀ hK : K < m.length, m[K].1 ≠ t) : getS m t = none := by
  cases e : getS m t with
  | none => rfl
  | some x =>
    have hm := get_mem e
    rw [← List.take_append_drop K m] at hm
    rcases List.mem_append.1 hm with hm | hm
    · exact absurd (h.low _ hm) (lt_irrefl t)
    · exact absurd (h.above hr hn _ hm) (lt_irrefl t)
theorem Stand.is {m : List Acct} {t : ByteArray} {K : Nat} (h : Stand m t K) (hr : Rise m) : isS m t = true ↔ ∃ hK : K < m.length, m[K].1 = t := by
  constructor
  · intro hi
    refine Classical.byContradiction fun hn => ?_
    unfold isS at hi
    rw [h.none hr (fun hK e => hn ⟨hK, e⟩)] at hi
    cases hi
  · rintro ⟨hK, he⟩
    unfold isS
    rw [h.here hr hK he]
    rfl
theorem Stand.put_is {m : List Acct} {t : ByteArray} {K : Nat} (h : Stand m t K) (hr : Rise m) (hK : K < m.length) (he : m[K].1 = t) (c p : Int) : putS m t c p = m.set K (t, c, p) := by
  have e1 : m = m.take K ++ (m[K] :: m.drop (K + 1)) := by rw [← List.drop_eq_getElem_cons hK, List.take_append_drop]
  have hab : ∀ y ∈ m.drop (K + 1), lt t y.1 := by
    intro y hy
    obtain ⟨i, hi, rfl⟩ := List.mem_iff_getElem.1 hy
    rw [List.length_drop] at hi
    rw [List.getElem_drop, ← he]
    exact List.pairwise_iff_getElem.1 hr K (K + 1 + i) hK (by omega) (by omega)
  have e2 : delS m t = m.take K ++ m.drop (K + 1) := by
    unfold delS
    conv => lhs; rw [e1]
    rw [List.filter_append, List.filter_cons]
    have f1 : (m.take K).filter (fun x => decide (x.1 ≠ t)) = m.take K := List.filter_eq_self.2 fun x hx => by simpa using lt_ne (h.low x hx)
    have f2 : (m.drop (K + 1)).filter (fun x => decide (x.1 ≠ t)) = m.drop (K + 1) := List.filter_eq_self.2 fun x hx => by simpa using (lt_ne (hab x hx)).symm
    rw [f1, f2, if_neg (by simp [he])]
  unfold putS
  rw [e2, ins_mid h.low hab, List.set_eq_take_append_cons_drop, if_pos hK]
theorem Stand.put_not {m : List Acct} {t : ByteArray} {K : Nat} (h : Stand m t K) (hr : Rise m) (hn : ∀ hK : K < m.length, m[K].1 ≠ t) (c p : Int) : putS m t c p = m.take K ++ (t, c, p) :: m.drop K := by
  have hab := h.above hr hn
  have e2 : delS m t = m.take K ++ m.drop K := by
    unfold delS
    rw [List.take_append_drop]
    refine List.filter_eq_self.2 fun x hx => ?_
    rw [← List.take_append_drop K m] at hx
    rcases List.mem_append.1 hx with hx | hx
    · simpa using lt_ne (h.low x hx)
    · simpa using (lt_ne (hab x hx)).symm
  unfold putS
  rw [e2, ins_mid h.low hab]
theorem place_zero (m : List Acct) (t : ByteArray) : ∀ x ∈ m.take 0, lt x.1 t := fun x hx => absurd hx (by simp)
theorem place_next {m : List Acct} {t : ByteArray} {k : Nat} (h : ∀ x ∈ m.take k, lt x.1 t) (hk : k < m.length) (hl : lt m[k].1 t) : ∀ x ∈ m.take (k + 1), lt x.1 t := by
  rw [List.take_succ_eq_append_getElem hk]
  intro x hx
  rcases List.mem_append.1 hx with hx | hx
  · exact h x hx
  · simp at hx
    rw [hx]
    exact hl
end Go.Proofs.Ytbfpggghcdfghaa.PA
