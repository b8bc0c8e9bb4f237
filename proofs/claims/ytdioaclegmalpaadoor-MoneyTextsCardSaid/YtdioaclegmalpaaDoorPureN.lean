/- The plain law of the document's reading of an amount. -/
import Derived.Test.YtdioaclegmalpaaDoorHandJ
namespace Go.Proofs.YtdioaclegmalpaaDoor.Hand
open Go.Lib

def stepV (a : Nat) (c : UInt8) : Nat := if 48 ≤ c.toNat ∧ c.toNat ≤ 57 then a * 10 + (c.toNat - 48) else a
def vdigs (l : List UInt8) : Nat := l.foldl stepV 0
theorem vd_step (L : List UInt8) (k : Nat) (h : k < L.length) : vdigs (L.take (k + 1)) = stepV (vdigs (L.take k)) L[k] := by
  have e : L.take (k + 1) = L.take k ++ [L[k]] := by rw [List.take_add_one, List.getElem?_eq_getElem h]; rfl
  unfold vdigs
  rw [e, List.foldl_append]
  rfl
theorem stepV_le (a : Nat) (c : UInt8) : a ≤ stepV a c := by unfold stepV; split <;> omega
theorem foldV_le : ∀ (m : List UInt8) (a : Nat), a ≤ m.foldl stepV a
  | [], _ => Nat.le_refl _
  | x :: m, a => Nat.le_trans (stepV_le a x) (foldV_le m _)
theorem vd_take (L : List UInt8) (k : Nat) : vdigs (L.take k) ≤ vdigs L := by
  have e : vdigs L = (L.drop k).foldl stepV (vdigs (L.take k)) := by
    unfold vdigs
    rw [← List.foldl_append, List.take_append_drop]
  rw [e]
  exact foldV_le _ _
theorem foldV_digs : ∀ (l : List UInt8) (a : Nat), (∀ c ∈ l, Dig c) → l.foldl stepV a = l.foldl (fun a c => a * 10 + (c.toNat - 48)) a
  | [], a, _ => rfl
  | c :: l, a, h => by
    have hc := h c (List.mem_cons_self ..)
    rw [List.foldl_cons, List.foldl_cons, show stepV a c = a * 10 + (c.toNat - 48) from if_pos hc]
    exact foldV_digs l _ (fun x hx => h x (List.mem_cons_of_mem _ hx))
theorem vd_mag (u : Nat) : vdigs (magL u) = u := by
  have h := foldV_digs (padL u) 0 (pad_dig u)
  have hv := pad_val u
  unfold val at hv
  rw [hv] at h
  unfold vdigs magL
  unfold padL at h
  rw [List.foldl_append] at h ⊢
  rw [List.foldl_cons, show ∀ a, stepV a 46 = a from fun a => if_neg (by decide)]
  exact h
theorem vd_text (t : Int) : vdigs (textL t) = t.natAbs := by
  unfold textL
  split
  · show (magL t.natAbs).foldl stepV (stepV 0 45) = _
    rw [show stepV 0 45 = 0 from if_neg (by decide)]
    exact vd_mag _
  · exact vd_mag _
theorem mag_chars (u : Nat) : ∀ c ∈ magL u, Dig c ∨ c = 46 := by
  intro c hc
  unfold magL at hc
  rcases List.mem_append.1 hc with h | h
  · exact Or.inl (dec_mem _ c h)
  · simp only [List.mem_cons, List.not_mem_nil, or_false] at h
    rcases h with rfl | rfl | rfl
    · exact Or.inr rfl
    · exact Or.inl (by unfold Dig; rw [UInt8.toNat_ofNat']; omega)
    · exact Or.inl (by unfold Dig; rw [UInt8.toNat_ofNat']; omega)
theorem text_chars (t : Int) (k : Nat) (h : k < (textL t).length) : Dig (textL t)[k] ∨ (textL t)[k] = 46 ∨ ((textL t)[k] = 45 ∧ k = 0) := by
  by_cases hn : t < 0
  · have e : textL t = 45 :: magL t.natAbs := if_pos hn
    have g : ∀ (l : List UInt8) (hl : l = 45 :: magL t.natAbs) (h : k < l.length), Dig l[k] ∨ l[k] = 46 ∨ (l[k] = 45 ∧ k = 0) := by
      intro l hl h
      subst hl
      cases k with
      | zero => exact Or.inr (Or.inr ⟨rfl, rfl⟩)
      | succ k =>
        rw [List.getElem_cons_succ]
        rcases mag_chars t.natAbs _ (List.getElem_mem (by simpa using h)) with h | h
        · exact Or.inl h
        · exact Or.inr (Or.inl h)
    exact g _ e h
  · have e : textL t = magL t.natAbs := if_neg hn
    have hm := List.getElem_mem h
    rcases mag_chars t.natAbs _ (by rw [← e]; exact hm) with h | h
    · exact Or.inl h
    · exact Or.inr (Or.inl h)
theorem text_sign (t : Int) : ((textL t).head? == some 45) = decide (t < 0) := by
  unfold textL
  by_cases hn : t < 0
  · rw [if_pos hn, decide_eq_true hn]
    rfl
  · rw [if_neg hn, decide_eq_false hn]
    have hne : magL t.natAbs ≠ [] := by unfold magL; simp
    cases hm : magL t.natAbs with
    | nil => exact absurd hm hne
    | cons c r =>
      rcases mag_chars t.natAbs c (by rw [hm]; exact List.mem_cons_self ..) with h | h
      · simp only [List.head?_cons]
        rw [beq_eq_false_iff_ne]
        intro he
        have : c = 45 := by simpa using he
        rw [this] at h
        exact absurd h.1 (by decide)
      · rw [h]; rfl
theorem text_20 (t : Int) (h0 : -9007199254740992 ≤ t) (h1 : t ≤ 9007199254740992) : (textL t).length ≤ 20 := by
  have h := dec_short 15 (t.natAbs / 100) (by have : t.natAbs ≤ 9007199254740992 := by omega
                                              exact Nat.lt_of_le_of_lt (Nat.le_trans (Nat.div_le_self _ _) this) (by decide))
  unfold textL magL
  split <;> simp <;> omega
def mns (L : List UInt8) (k : Nat) : Bool := decide (0 < k) && (L.head? == some 45)
/-- The bytes so far are those of a time's text only if.. -/
theorem bad_long {s : ByteArray} (h : 20 < s.size) : ParseEnd s 0 1 := by
  refine Or.inr ⟨rfl, rfl, fun t h0 h1 e => ?_⟩
  subst e
  have := text_20 t h0 h1
  rw [Lib.size_eq, textM_list] at h
  omega
theorem bad_over {s : ByteArray} {L : List UInt8} (hL : L = s.data.toList) {k : Nat} (h : 9007199254740992 < vdigs (L.take k)) : ParseEnd s 0 1 := by
  refine Or.inr ⟨rfl, rfl, fun t h0 h1 e => ?_⟩
  subst e hL
  have := vd_take (textM t).data.toList k
  rw [textM_list, vd_text] at this
  rw [textM_list] at h
  omega
theorem bad_char {s : ByteArray} {L : List UInt8} (hL : L = s.data.toList) {k : Nat} (hk : k < L.length) (hd : ¬ (48 ≤ L[k].toNat ∧ L[k].toNat ≤ 57)) (hp : L[k].toNat ≠ 46) (hm : L[k].toNat = 45 → k ≠ 0) : ParseEnd s 0 1 := by
  refine Or.inr ⟨rfl, rfl, fun t h0 h1 e => ?_⟩
  subst e
  have e2 : L = textL t := hL
  subst e2
  rcases text_chars t k hk with h | h | ⟨h, h'⟩
  · exact hd h
  · exact hp (by rw [h]; decide)
  · exact hm (by rw [h]; decide) h'
theorem end_text {s : ByteArray} {L : List UInt8} (hL : L = s.data.toList) {m : Int} (hm : m = if mns L L.length then -(vdigs L : Int) else vdigs L) (hs : ¬ textM m = s) : ParseEnd s 0 1 := by
  refine Or.inr ⟨rfl, rfl, fun t h0 h1 e => hs ?_⟩
  have e2 : L = textL t := by rw [hL, ← e]; rfl
  subst e2
  rw [vd_text] at hm
  have hl : 0 < (textL t).length := by
    unfold textL magL
    split <;> simp <;> omega
  have hmn : mns (textL t) (textL t).length = decide (t < 0) := by
    unfold mns
    rw [decide_eq_true hl, Bool.true_and, text_sign]
  rw [hmn] at hm
  have : m = t := by
    by_cases h : t < 0
    · rw [if_pos (decide_eq_true h)] at hm; omega
    · rw [if_neg (by simpa using h)] at hm; omega
  rw [this]
  exact e
end Go.Proofs.YtdioaclegmalpaaDoor.Hand
