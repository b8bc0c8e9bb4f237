/- The plain law of the money's texts: what an amount is in words, and that its words give it back. -/
import Derived.Test.YtdioaclegmalpaaDoorHandA
import Derived.Lib.AtoiAll
import Derived.Lib.ItoaNum
namespace Go.Proofs.YtdioaclegmalpaaDoor.Hand
open Go.Lib

theorem ba_ext {a b : ByteArray} (h : a.data.toList = b.data.toList) : a = b := by
  apply ByteArray.ext
  exact Array.toList_inj.1 h
theorem ba_app (a b : ByteArray) : (a ++ b).data.toList = a.data.toList ++ b.data.toList := by simp [ByteArray.data_append]
theorem ba_one (c : UInt8) : (⟨#[c]⟩ : ByteArray).data.toList = [c] := rfl
theorem index_at (l r : List UInt8) (c : UInt8) (h : c ∉ l) : Lib.indexByte (l ++ c :: r) c = l.length := by
  induction l with
  | nil => simp [Lib.indexByte]
  | cons b l ih =>
    have hb : (b == c) = false := by
      rw [beq_eq_false_iff_ne]
      intro e
      exact h (by rw [e]; exact List.mem_cons_self ..)
    have hi := ih (fun hm => h (List.mem_cons_of_mem _ hm))
    rw [List.cons_append, Lib.indexByte, hb, hi]
    simp
theorem cut1_at (s A B : ByteArray) (c : UInt8) (hs : s.data.toList = A.data.toList ++ c :: B.data.toList) (h : c ∉ A.data.toList) : cut1 s c = (A, B, true) := by
  have hi := index_at A.data.toList B.data.toList c h
  rw [← hs] at hi
  unfold cut1
  rw [hi, if_pos (by omega), Int.toNat_natCast]
  have e1 : s.extract 0 A.data.toList.length = A := by
    apply ba_ext
    rw [Lib.extract_eq, hs]
    simp
  have e2 : s.extract (A.data.toList.length + 1) s.size = B := by
    apply ba_ext
    have hz : s.size = A.data.toList.length + 1 + B.data.toList.length := by rw [Lib.size_eq, hs]; simp; omega
    have hd : s.data.toList.drop (A.data.toList.length + 1) = B.data.toList := by
      rw [hs, show A.data.toList ++ c :: B.data.toList = (A.data.toList ++ [c]) ++ B.data.toList by simp, show A.data.toList.length + 1 = (A.data.toList ++ [c]).length by simp]
      exact List.drop_left ..
    rw [Lib.extract_eq, hd, hz]
    show List.take _ _ = _
    exact List.take_of_length_le (by omega)
  rw [e1, e2]
theorem cut1_size (s : ByteArray) (c : UInt8) : (cut1 s c).1.size ≤ s.size ∧ (cut1 s c).2.1.size ≤ s.size := by
  unfold cut1
  split
  · simp only [ByteArray.size_extract]
    omega
  · exact ⟨Nat.le_refl _, Nat.zero_le _⟩

theorem dec_mem (n : Nat) : ∀ c ∈ Lib.decDigits n, 48 ≤ c.toNat ∧ c.toNat ≤ 57 := by
  induction n using Nat.strongRecOn with
  | ind n ih =>
    intro c hc
    rw [Lib.decDigits] at hc
    split at hc
    · rw [List.mem_singleton] at hc
      rw [hc, UInt8.toNat_ofNat']
      omega
    · rcases List.mem_append.1 hc with h | h
      · exact ih _ (by omega) c h
      · rw [List.mem_singleton] at h
        rw [h, UInt8.toNat_ofNat']
        omega
theorem dec_ne (n : Nat) : Lib.decDigits n ≠ [] := by
  rw [Lib.decDigits]
  split <;> simp

def Dig (c : UInt8) : Prop := 48 ≤ c.toNat ∧ c.toNat ≤ 57
def val (l : List UInt8) : Nat := l.foldl (fun a c => a * 10 + (c.toNat - 48)) 0
theorem val_app (l : List UInt8) (c : UInt8) : val (l ++ [c]) = val l * 10 + (c.toNat - 48) := by unfold val; rw [List.foldl_append]; rfl
theorem val_dec (n : Nat) : val (Lib.decDigits n) = n := by
  induction n using Nat.strongRecOn with
  | ind n ih =>
    rw [Lib.decDigits]
    split
    · rename_i h
      show 0 * 10 + ((UInt8.ofNat (48 + n)).toNat - 48) = n
      rw [UInt8.toNat_ofNat']
      omega
    · rename_i h
      rw [val_app, ih _ (by omega), UInt8.toNat_ofNat']
      omega
theorem dec_small (n : Nat) (h : n < 10) : Lib.decDigits n = [UInt8.ofNat (48 + n)] := by rw [Lib.decDigits, dif_pos h]
theorem dec_big (n : Nat) (h : ¬ n < 10) : Lib.decDigits n = Lib.decDigits (n / 10) ++ [UInt8.ofNat (48 + n % 10)] := by
  conv => lhs; rw [Lib.decDigits, dif_neg h]
theorem dec_short (k : Nat) : ∀ n, n < 10 ^ (k + 1) → (Lib.decDigits n).length ≤ k + 1 := by
  induction k with
  | zero => intro n hn; rw [dec_small n (by simpa using hn)]; simp
  | succ k ih =>
    intro n hn
    rw [Lib.decDigits]
    split
    · simp
    · have := ih (n / 10) (by rw [Nat.pow_succ] at hn; omega)
      rw [List.length_append]
      simp
      omega
theorem dec_20 (n : Nat) (h : n ≤ 9223372036854775808) : (Lib.decDigits n).length ≤ 20 := dec_short 19 n (Nat.lt_of_le_of_lt h (by decide))

/-- An amount in pounds, as bytes. -/
def magL (u : Nat) : List UInt8 := Lib.decDigits (u / 100) ++ [46, UInt8.ofNat (48 + u / 10 % 10), UInt8.ofNat (48 + u % 10)]
def textL (n : Int) : List UInt8 := if n < 0 then 45 :: magL n.natAbs else magL n.natAbs
def textM (n : Int) : ByteArray := ⟨(textL n).toArray⟩
theorem textM_list (n : Int) : (textM n).data.toList = textL n := rfl
/-- The digits, three at least. -/
def padL (u : Nat) : List UInt8 := Lib.decDigits (u / 100) ++ [UInt8.ofNat (48 + u / 10 % 10), UInt8.ofNat (48 + u % 10)]
theorem pad_dec (u : Nat) : List.replicate (3 - (Lib.decDigits u).length) 48 ++ Lib.decDigits u = padL u := by
  unfold padL
  by_cases h1 : u < 10
  · rw [dec_small u h1, dec_small (u / 100) (by omega), show u / 10 % 10 = 0 by omega, show u % 10 = u by omega, show u / 100 = 0 by omega]
    rfl
  · by_cases h2 : u < 100
    · rw [dec_big u h1, dec_small (u / 10) (by omega), dec_small (u / 100) (by omega), show u / 10 % 10 = u / 10 by omega, show u / 100 = 0 by omega]
      rfl
    · rw [dec_big u h1, dec_big (u / 10) (by omega), show u / 10 / 10 = u / 100 by omega]
      have hne := List.length_pos_iff.2 (dec_ne (u / 100))
      have e : 3 - (Lib.decDigits (u / 100) ++ [UInt8.ofNat (48 + u / 10 % 10)] ++ [UInt8.ofNat (48 + u % 10)]).length = 0 := by simp; omega
      rw [e]
      simp
theorem pad_len (u : Nat) : (padL u).length = (Lib.decDigits (u / 100)).length + 2 := by unfold padL; simp
theorem pad_take (u : Nat) : (padL u).take ((padL u).length - 2) = Lib.decDigits (u / 100) := by rw [pad_len, Nat.add_sub_cancel]; unfold padL; exact List.take_left ..
theorem pad_drop (u : Nat) : (padL u).drop ((padL u).length - 2) = [UInt8.ofNat (48 + u / 10 % 10), UInt8.ofNat (48 + u % 10)] := by rw [pad_len, Nat.add_sub_cancel]; unfold padL; exact List.drop_left ..

theorem fold_mono : ∀ (m : List UInt8) (a : Nat), a ≤ m.foldl (fun a c => a * 10 + (c.toNat - 48)) a
  | [], a => Nat.le_refl _
  | x :: m, a => Nat.le_trans (show a ≤ a * 10 + (x.toNat - 48) by omega) (fold_mono m (a * 10 + (x.toNat - 48)))
theorem pu10 : ∀ (l : List UInt8) (acc : Nat), (∀ c ∈ l, Dig c) → l.foldl (fun a c => a * 10 + (c.toNat - 48)) acc < 1844674407370955162 → Lib.parseUint10 acc l = .ok (l.foldl (fun a c => a * 10 + (c.toNat - 48)) acc)
  | [], acc, _, _ => rfl
  | c :: r, acc, hd, hb => by
    have hc := hd c (List.mem_cons_self ..)
    unfold Dig at hc
    rw [List.foldl_cons] at hb ⊢
    have h1 := fold_mono r (acc * 10 + (c.toNat - 48))
    rw [Lib.parseUint10, if_pos hc, if_neg (by omega), if_neg (by omega)]
    exact pu10 r _ (fun x hx => hd x (List.mem_cons_of_mem _ hx)) hb
theorem pad_val (u : Nat) : val (padL u) = u := by
  unfold padL
  rw [show Lib.decDigits (u / 100) ++ [UInt8.ofNat (48 + u / 10 % 10), UInt8.ofNat (48 + u % 10)] = (Lib.decDigits (u / 100) ++ [UInt8.ofNat (48 + u / 10 % 10)]) ++ [UInt8.ofNat (48 + u % 10)] by simp, val_app, val_app, val_dec, UInt8.toNat_ofNat', UInt8.toNat_ofNat']
  omega
theorem pad_dig (u : Nat) : ∀ c ∈ padL u, Dig c := by
  intro c hc
  unfold padL at hc
  unfold Dig
  rcases List.mem_append.1 hc with h | h
  · exact dec_mem _ c h
  · simp only [List.mem_cons, List.not_mem_nil, or_false] at h
    rcases h with rfl | rfl <;> rw [UInt8.toNat_ofNat'] <;> omega
theorem mag_pad (u : Nat) (hu : u ≤ 9007199254740992) : Lib.parseMag (padL u) = .ok u := by
  unfold Lib.parseMag
  have hne : padL u ≠ [] := fun h => by have := pad_len u; rw [h] at this; simp at this
  have hv := pad_val u
  unfold val at hv
  rw [if_neg hne, pu10 (padL u) 0 (pad_dig u) (by rw [hv]; omega), hv]
/-- The digits ahead of the point and behind it, joined, are read as the amount. -/
theorem atoi_text (n : Int) (h0 : -9007199254740992 ≤ n) (h1 : n ≤ 9007199254740992) : Lib.atoiAll (if n < 0 then 45 :: padL n.natAbs else padL n.natAbs) = .ok n := by
  have hm := mag_pad n.natAbs (by omega)
  by_cases h : n < 0
  · rw [if_pos h]
    unfold Lib.atoiAll
    dsimp only
    rw [if_pos (Or.inr (by decide)), hm]
    dsimp only
    rw [if_neg (by intro h; exact h.1 (by decide)), if_neg (by intro h; omega), if_pos (by decide)]
    congr 1
    omega
  · rw [if_neg h]
    obtain ⟨c, r, e⟩ : ∃ c r, padL n.natAbs = c :: r := by
      cases hh : padL n.natAbs with
      | nil => have := pad_len n.natAbs; rw [hh] at this; simp at this
      | cons c r => exact ⟨c, r, rfl⟩
    have hc := pad_dig n.natAbs c (by rw [e]; exact List.mem_cons_self ..)
    unfold Dig at hc
    rw [e] at hm ⊢
    unfold Lib.atoiAll
    dsimp only
    rw [if_neg (by omega), hm]
    dsimp only
    rw [if_neg (by intro h; omega), if_neg (by intro h; omega), if_neg (by omega)]
    congr 1
    omega
theorem cut_text (n : Int) : ∃ A B : ByteArray, cut1 (textM n) 46 = (A, B, true) ∧ (A ++ B).data.toList = (if n < 0 then 45 :: padL n.natAbs else padL n.natAbs) := by
  have hno : (46 : UInt8) ∉ Lib.decDigits (n.natAbs / 100) := by
    intro hm
    have := (dec_mem _ _ hm).1
    exact absurd this (by decide)
  obtain ⟨B, hB⟩ : ∃ B : ByteArray, B = ⟨#[UInt8.ofNat (48 + n.natAbs / 10 % 10), UInt8.ofNat (48 + n.natAbs % 10)]⟩ := ⟨_, rfl⟩
  by_cases h : n < 0
  · refine ⟨⟨(45 :: Lib.decDigits (n.natAbs / 100)).toArray⟩, B, cut1_at _ _ _ _ ?_ ?_, ?_⟩
    · rw [textM_list, textL, if_pos h, hB]
      simp [magL]
    · show (46 : UInt8) ∉ 45 :: Lib.decDigits (n.natAbs / 100)
      rw [List.mem_cons]
      rintro (h | h)
      · exact absurd h (by decide)
      · exact hno h
    · rw [ba_app, if_pos h, hB]
      simp [padL]
  · refine ⟨⟨(Lib.decDigits (n.natAbs / 100)).toArray⟩, B, cut1_at _ _ _ _ ?_ ?_, ?_⟩
    · rw [textM_list, textL, if_neg h, hB]
      simp [magL]
    · exact hno
    · rw [ba_app, if_neg h, hB]
      simp [padL]
/-- What a reading of an amount comes to. -/
def ParseEnd (s : ByteArray) (n e : Int) : Prop := (e = 0 ∧ -9007199254740992 ≤ n ∧ n ≤ 9007199254740992 ∧ textM n = s) ∨ (e = 1 ∧ n = 0 ∧ ∀ t : Int, -9007199254740992 ≤ t → t ≤ 9007199254740992 → textM t ≠ s)
theorem text_inj {t u : Int} (h0 : -9007199254740992 ≤ t) (h1 : t ≤ 9007199254740992) (k0 : -9007199254740992 ≤ u) (k1 : u ≤ 9007199254740992) (h : textM t = textM u) : t = u := by
  obtain ⟨A, B, c, d⟩ := cut_text t
  obtain ⟨A', B', c', d'⟩ := cut_text u
  rw [h, c'] at c
  simp only [Prod.mk.injEq] at c
  obtain ⟨rfl, rfl, -⟩ := c
  have e1 := atoi_text t h0 h1
  have e2 := atoi_text u k0 k1
  rw [← d] at e1
  rw [← d', e1] at e2
  simpa using e2
theorem ParseEnd.alike {s : ByteArray} {n e m f : Int} (h : ParseEnd s n e) (k : ParseEnd s m f) : n = m ∧ e = f := by
  rcases h with ⟨rfl, a, b, c⟩ | ⟨rfl, rfl, a⟩
  · rcases k with ⟨rfl, a', b', c'⟩ | ⟨rfl, rfl, a'⟩
    · exact ⟨text_inj a b a' b' (c.trans c'.symm), rfl⟩
    · exact absurd c (a' n a b)
  · rcases k with ⟨rfl, a', b', c'⟩ | ⟨rfl, rfl, a'⟩
    · exact absurd c' (a m a' b')
    · exact ⟨rfl, rfl⟩
end Go.Proofs.YtdioaclegmalpaaDoor.Hand
