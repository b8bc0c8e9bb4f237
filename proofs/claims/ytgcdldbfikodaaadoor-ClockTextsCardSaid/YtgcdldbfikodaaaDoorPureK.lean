/- The plain law of the document's reading of a time: the digits ahead, and the six places behind. -/
import Derived.Test.YtgcdldbfikodaaaDoorHandE
namespace Go.Proofs.YtgcdldbfikodaaaDoor.Hand
open Go.Lib

def Dig (c : UInt8) : Prop := 48 ≤ c.toNat ∧ c.toNat ≤ 57
def val (l : List UInt8) : Nat := l.foldl (fun a c => a * 10 + (c.toNat - 48)) 0
theorem val_app (l : List UInt8) (c : UInt8) : val (l ++ [c]) = val l * 10 + (c.toNat - 48) := by unfold val; rw [List.foldl_append]; rfl
theorem val_lt (k : Nat) : ∀ l : List UInt8, l.length = k → (∀ c ∈ l, Dig c) → val l < 10 ^ k := by
  induction k with
  | zero => intro l hl _; rw [List.length_eq_zero_iff.1 hl]; decide
  | succ k ih =>
    intro l hl hd
    obtain ⟨m, c, rfl⟩ : ∃ m c, l = m ++ [c] := by
      rcases List.eq_nil_or_concat l with h | ⟨m, c, h⟩
      · rw [h] at hl; simp at hl
      · exact ⟨m, c, by simpa using h⟩
    rw [List.length_append] at hl
    have h1 := ih m (by simp at hl; omega) (fun x hx => hd x (List.mem_append_left _ hx))
    have h2 := hd c (by simp)
    unfold Dig at h2
    rw [val_app, Nat.pow_succ]
    omega
theorem val_dec (n : Nat) : val (Lib.decDigits n) = n := by
  induction n using Nat.strongRecOn with
  | ind n ih =>
    rw [Lib.decDigits]
    split
    · rename_i h
      show 0 * 10 + ((UInt8.ofNat (48 + n)).toNat - 48) = n
      rw [UInt8.toNat_ofNat']
      omega
    · rename_i h
      rw [val_app, ih _ (by omega), UInt8.toNat_ofNat']
      omega
theorem dec_short (k : Nat) : ∀ n, n < 10 ^ (k + 1) → (Lib.decDigits n).length ≤ k + 1 := by
  induction k with
  | zero => intro n hn; rw [dec1 n (by simpa using hn)]; simp
  | succ k ih =>
    intro n hn
    rw [Lib.decDigits]
    split
    · simp
    · have := ih (n / 10) (by rw [Nat.pow_succ] at hn; omega)
      rw [List.length_append]
      simp
      omega
/-- Where the digits ahead end. -/
structure Stop (L : List UInt8) (i : Nat) : Prop where
  le : i ≤ L.length
  seven : i ≤ 7
  digs : ∀ c ∈ L.take i, Dig c
  stop : i = L.length ∨ (∃ h : i < L.length, ¬ Dig L[i]) ∨ i = 7
theorem Stop.at {l r : List UInt8} {i : Nat} (S : Stop (l ++ (32 : UInt8) :: r) i) (hl : ∀ c ∈ l, Dig c) (h6 : l.length ≤ 6) : i = l.length := by
  obtain ⟨h1, h2, h3, h4⟩ := S
  have a : ¬ l.length < i := by
    intro h
    have hm : (32 : UInt8) ∈ (l ++ (32 : UInt8) :: r).take i := by
      rw [List.take_append]
      refine List.mem_append_right _ ?_
      obtain ⟨m, hm⟩ : ∃ m, i - l.length = m + 1 := ⟨i - l.length - 1, by omega⟩
      rw [hm, List.take_succ_cons]
      exact List.mem_cons_self ..
    have := h3 _ hm
    unfold Dig at this
    exact absurd this.1 (by decide)
  have b : ¬ i < l.length := by
    intro h
    rcases h4 with h4 | ⟨h, h4⟩ | h4
    · rw [List.length_append] at h4; omega
    · apply h4
      rw [List.getElem_append_left (by assumption)]
      exact hl _ (List.getElem_mem _)
    · omega
  omega
/-- The number that the bytes at two places say. -/
def pair (L : List UInt8) (k : Nat) : Int := (((L.getD k 0).toNat : Int) - 48) * 10 + ((L.getD (k + 1) 0).toNat : Int) - 48
theorem text_read (t : Nat) (ht : t ≤ 2147483648) (i : Nat) (S : Stop (textB t).data.toList i) : (textB t).data.toList.length = i + 10 ∧ val ((textB t).data.toList.take i) = t / 10080 ∧ pair (textB t).data.toList (i + 5) = (t % 1440 / 60 : Nat) ∧ pair (textB t).data.toList (i + 8) = (t % 60 : Nat) := by
  have hd : t % 10080 / 1440 < 7 := by omega
  obtain ⟨d, hdd⟩ : ∃ d, d = t % 10080 / 1440 := ⟨_, rfl⟩
  have e : (textB t).data.toList = Lib.decDigits (t / 10080) ++ (32 : UInt8) :: ((dayB d).data.toList ++ [32, UInt8.ofNat (48 + t % 1440 / 60 / 10), UInt8.ofNat (48 + t % 1440 / 60 % 10), 58, UInt8.ofNat (48 + t % 60 / 10), UInt8.ofNat (48 + t % 60 % 10)]) := by
    rw [text_list, two_list _ (by omega), two_list _ (by omega), hdd]
    simp
  have hl := dec_mem (t / 10080)
  have h6 := dec_short 5 (t / 10080) (by omega)
  have hv := val_dec (t / 10080)
  rw [← hdd] at hd
  rw [e] at S ⊢
  generalize Lib.decDigits (t / 10080) = l at S hl h6 hv ⊢
  have hi := S.at hl h6
  subst hi
  have h3 : ∃ a b c, (dayB d).data.toList = [a, b, c] := by
    match d, hd with
    | 0, _ => exact ⟨_, _, _, rfl⟩
    | 1, _ => exact ⟨_, _, _, rfl⟩
    | 2, _ => exact ⟨_, _, _, rfl⟩
    | 3, _ => exact ⟨_, _, _, rfl⟩
    | 4, _ => exact ⟨_, _, _, rfl⟩
    | 5, _ => exact ⟨_, _, _, rfl⟩
    | 6, _ => exact ⟨_, _, _, rfl⟩
  obtain ⟨a, b, c, h3⟩ := h3
  rw [h3]
  refine ⟨by simp, ?_, ?_, ?_⟩
  · rw [List.take_left]; exact hv
  · unfold pair
    simp only [List.getD_eq_getElem?_getD, List.getElem?_append_right (Nat.le_add_right _ _), Nat.add_assoc, Nat.add_sub_cancel_left]
    simp only [List.cons_append, List.nil_append, List.getElem?_cons_succ, List.getElem?_cons_zero, Option.getD_some, UInt8.toNat_ofNat']
    omega
  · unfold pair
    simp only [List.getD_eq_getElem?_getD, List.getElem?_append_right (Nat.le_add_right _ _), Nat.add_assoc, Nat.add_sub_cancel_left]
    simp only [List.cons_append, List.nil_append, List.getElem?_cons_succ, List.getElem?_cons_zero, Option.getD_some, UInt8.toNat_ofNat']
    omega
end Go.Proofs.YtgcdldbfikodaaaDoor.Hand
