/- The plain law of the clock's texts: a text cut at its spaces and its colon gives back its numbers; whatever is no text of a time is none. -/
import Derived.Test.YtgcdldbfikodaaaDoorHandB
import Derived.Lib.ParseIntB
namespace Go.Proofs.YtgcdldbfikodaaaDoor.Hand
open Go.Lib

theorem ba_ext {a b : ByteArray} (h : a.data.toList = b.data.toList) : a = b := by
  apply ByteArray.ext
  exact Array.toList_inj.1 h
theorem ba_app (a b : ByteArray) : (a ++ b).data.toList = a.data.toList ++ b.data.toList := by simp [ByteArray.data_append]
theorem ba_one (c : UInt8) : (⟨#[c]⟩ : ByteArray).data.toList = [c] := rfl
theorem index_at (l r : List UInt8) (c : UInt8) (h : c ∉ l) : Lib.indexByte (l ++ c :: r) c = l.length := by
  induction l with
  | nil => simp [Lib.indexByte]
  | cons b l ih =>
    have hb : (b == c) = false := by
      rw [beq_eq_false_iff_ne]
      intro e
      exact h (by rw [e]; exact List.mem_cons_self ..)
    have hi := ih (fun hm => h (List.mem_cons_of_mem _ hm))
    rw [List.cons_append, Lib.indexByte, hb, hi]
    simp
theorem cut1_at (s A B : ByteArray) (c : UInt8) (hs : s.data.toList = A.data.toList ++ c :: B.data.toList) (h : c ∉ A.data.toList) : cut1 s c = (A, B, true) := by
  have hi := index_at A.data.toList B.data.toList c h
  rw [← hs] at hi
  unfold cut1
  rw [hi, if_pos (by omega), Int.toNat_natCast]
  have e1 : s.extract 0 A.data.toList.length = A := by
    apply ba_ext
    rw [Lib.extract_eq, hs]
    simp
  have e2 : s.extract (A.data.toList.length + 1) s.size = B := by
    apply ba_ext
    have hz : s.size = A.data.toList.length + 1 + B.data.toList.length := by rw [Lib.size_eq, hs]; simp; omega
    have hd : s.data.toList.drop (A.data.toList.length + 1) = B.data.toList := by
      rw [hs, show A.data.toList ++ c :: B.data.toList = (A.data.toList ++ [c]) ++ B.data.toList by simp, show A.data.toList.length + 1 = (A.data.toList ++ [c]).length by simp]
      exact List.drop_left ..
    rw [Lib.extract_eq, hd, hz]
    show List.take _ _ = _
    exact List.take_of_length_le (by omega)
  rw [e1, e2]
theorem cut1_size (s : ByteArray) (c : UInt8) : (cut1 s c).1.size ≤ s.size ∧ (cut1 s c).2.1.size ≤ s.size := by
  unfold cut1
  split
  · simp only [ByteArray.size_extract]
    omega
  · exact ⟨Nat.le_refl _, Nat.zero_le _⟩

theorem dec_mem (n : Nat) : ∀ c ∈ Lib.decDigits n, 48 ≤ c.toNat ∧ c.toNat ≤ 57 := by
  induction n using Nat.strongRecOn with
  | ind n ih =>
    intro c hc
    rw [Lib.decDigits] at hc
    split at hc
    · rw [List.mem_singleton] at hc
      rw [hc, UInt8.toNat_ofNat']
      omega
    · rcases List.mem_append.1 hc with h | h
      · exact ih _ (by omega) c h
      · rw [List.mem_singleton] at h
        rw [h, UInt8.toNat_ofNat']
        omega
theorem pu_append (M : Nat) : ∀ (l r : List UInt8) (acc k : Nat), Lib.parseUintM M acc l = .ok k → Lib.parseUintM M acc (l ++ r) = Lib.parseUintM M k r
  | [], r, acc, k, h => by
    simp only [Lib.parseUintM, NumEnd.ok.injEq] at h
    rw [h, List.nil_append]
  | c :: l, r, acc, k, h => by
    rw [List.cons_append]
    rw [Lib.parseUintM] at h ⊢
    by_cases h1 : 48 ≤ c.toNat ∧ c.toNat ≤ 57
    · rw [if_pos h1] at h ⊢
      by_cases h2 : 1844674407370955162 ≤ acc
      · rw [if_pos h2] at h; cases h
      · rw [if_neg h2] at h ⊢
        by_cases h3 : M < acc * 10 + (c.toNat - 48)
        · rw [if_pos h3] at h; cases h
        · rw [if_neg h3] at h ⊢
          exact pu_append M l r _ k h
    · rw [if_neg h1] at h; cases h
theorem pu_dec (M : Nat) (hM : M < 1844674407370955162) (n : Nat) : n ≤ M → Lib.parseUintM M 0 (Lib.decDigits n) = .ok n := by
  induction n using Nat.strongRecOn with
  | ind n ih =>
    intro hn
    rw [Lib.decDigits]
    split
    · rename_i h
      have e : (UInt8.ofNat (48 + n)).toNat = 48 + n := by rw [UInt8.toNat_ofNat']; omega
      rw [Lib.parseUintM, e, if_pos ⟨by omega, by omega⟩, if_neg (by omega), if_neg (by omega), Lib.parseUintM]
      congr 1
      omega
    · rename_i h
      have e : (UInt8.ofNat (48 + n % 10)).toNat = 48 + n % 10 := by rw [UInt8.toNat_ofNat']; omega
      rw [pu_append M _ _ _ _ (ih (n / 10) (by omega) (by omega)), Lib.parseUintM, e, if_pos ⟨by omega, by omega⟩, if_neg (by omega), if_neg (by omega), Lib.parseUintM]
      congr 1
      omega
theorem dec_ne (n : Nat) : Lib.decDigits n ≠ [] := by
  rw [Lib.decDigits]
  split <;> simp
theorem pu24_dec (n : Nat) (hn : n ≤ 16777215) : Lib.parseUintB 24 (Lib.decDigits n) = .ok n := by
  unfold Lib.parseUintB
  rw [if_neg (dec_ne n)]
  exact pu_dec _ (by decide) n (by omega)

theorem two_list (i : Nat) (hi : i < 100) : (twoB i).data.toList = [UInt8.ofNat (48 + i / 10), UInt8.ofNat (48 + i % 10)] := by
  unfold twoB
  split
  · rename_i h
    rw [ba_app, Lib.decDigits, dif_pos h, show i / 10 = 0 by omega, show i % 10 = i by omega]
    rfl
  · rename_i h
    show (Lib.decDigits i).toArray.toList = _
    rw [Lib.decDigits, dif_neg h, Lib.decDigits, dif_pos (by omega)]
    rfl
theorem two_pu (i : Nat) (hi : i < 60) : Lib.parseUintB 8 (twoB i).data.toList = .ok i := by
  rw [two_list i (by omega)]
  have := (by decide : ∀ i : Fin 60, Lib.parseUintB 8 [UInt8.ofNat (48 + i.val / 10), UInt8.ofNat (48 + i.val % 10)] = .ok i.val)
  exact this ⟨i, hi⟩
theorem day_idx (d : Nat) (hd : d < 7) : Lib.idxOfS nameL (dayB d) = d := by
  match d, hd with
  | 0, _ => rfl
  | 1, _ => rfl
  | 2, _ => rfl
  | 3, _ => rfl
  | 4, _ => rfl
  | 5, _ => rfl
  | 6, _ => rfl
  | k + 7, h => exact absurd h (by omega)
theorem day_no (d : Nat) (hd : d < 7) : (32 : UInt8) ∉ (dayB d).data.toList := by
  match d, hd with
  | 0, _ => decide
  | 1, _ => decide
  | 2, _ => decide
  | 3, _ => decide
  | 4, _ => decide
  | 5, _ => decide
  | 6, _ => decide
  | k + 7, h => exact absurd h (by omega)

theorem parts (t : Nat) (ht : t ≤ 2147483648) :
    Lib.parseUintB 24 (cut1 (textB t) 32).1.data.toList = .ok (t / 10080) ∧
    Lib.idxOfS nameL (cut1 (cut1 (textB t) 32).2.1 32).1 = (t % 10080 / 1440 : Nat) ∧
    Lib.parseUintB 8 (cut1 (cut1 (cut1 (textB t) 32).2.1 32).2.1 58).1.data.toList = .ok (t % 1440 / 60) ∧
    Lib.parseUintB 8 (cut1 (cut1 (cut1 (textB t) 32).2.1 32).2.1 58).2.1.data.toList = .ok (t % 60) := by
  obtain ⟨a, ha⟩ : ∃ a : ByteArray, a = ⟨(Lib.decDigits (t / 10080)).toArray⟩ := ⟨_, rfl⟩
  have la : a.data.toList = Lib.decDigits (t / 10080) := by rw [ha]
  obtain ⟨x, hx⟩ : ∃ x, x = twoB (t % 1440 / 60) := ⟨_, rfl⟩
  obtain ⟨y, hy⟩ : ∃ y, y = twoB (t % 60) := ⟨_, rfl⟩
  obtain ⟨b, hb⟩ : ∃ b, b = dayB (t % 10080 / 1440) := ⟨_, rfl⟩
  obtain ⟨R2, h2⟩ : ∃ R : ByteArray, R = (x ++ ⟨#[58]⟩) ++ y := ⟨_, rfl⟩
  obtain ⟨R1, h1⟩ : ∃ R : ByteArray, R = (b ++ ⟨#[32]⟩) ++ R2 := ⟨_, rfl⟩
  have c1 : cut1 (textB t) 32 = (a, R1, true) := by
    refine cut1_at _ a R1 32 ?_ ?_
    · unfold textB
      rw [← ha, ← hx, ← hy, ← hb, h1, h2]
      simp only [ba_app]
      simp
    · rw [la]
      intro hm
      have := (dec_mem _ _ hm).1
      exact absurd this (by decide)
  have c2 : cut1 R1 32 = (b, R2, true) := by
    refine cut1_at _ b R2 32 ?_ ?_
    · rw [h1]
      simp only [ba_app]
      simp
    · rw [hb]
      exact day_no _ (by omega)
  have c3 : cut1 R2 58 = (x, y, true) := by
    refine cut1_at _ x y 58 ?_ ?_
    · rw [h2]
      simp only [ba_app]
      simp
    · rw [hx, two_list _ (by omega)]
      have := (by decide : ∀ i : Fin 60, (58 : UInt8) ∉ [UInt8.ofNat (48 + i.val / 10), UInt8.ofNat (48 + i.val % 10)])
      exact this ⟨t % 1440 / 60, by omega⟩
  rw [c1]
  dsimp only
  rw [c2]
  dsimp only
  rw [c3]
  dsimp only
  refine ⟨?_, ?_, ?_, ?_⟩
  · rw [la]
    exact pu24_dec _ (by omega)
  · rw [hb]
    exact day_idx _ (by omega)
  · rw [hx]
    exact two_pu _ (by omega)
  · rw [hy]
    exact two_pu _ (by omega)

/-- What Parse hands back. -/
def ParseEnd (s : ByteArray) (n e : Int) : Prop := (e = 0 ∧ 0 ≤ n ∧ n ≤ 2147483648 ∧ textI n = s) ∨ (e = 1 ∧ n = 0 ∧ ∀ t : Int, 0 ≤ t → t ≤ 2147483648 → textI t ≠ s)

theorem textI_of {t : Int} (h0 : 0 ≤ t) (h1 : t ≤ 2147483648) : textI t = textB t.toNat := if_pos ⟨h0, h1⟩
theorem textI_inj {t u : Int} (h0 : 0 ≤ t) (h1 : t ≤ 2147483648) (k0 : 0 ≤ u) (k1 : u ≤ 2147483648) (h : textI t = textI u) : t = u := by
  rw [textI_of h0 h1, textI_of k0 k1] at h
  obtain ⟨p1, p2, p3, p4⟩ := parts t.toNat (by omega)
  obtain ⟨q1, q2, q3, q4⟩ := parts u.toNat (by omega)
  rw [h] at p1 p2 p3 p4
  rw [p1] at q1
  rw [p2] at q2
  rw [p3] at q3
  rw [p4] at q4
  simp only [NumEnd.ok.injEq] at q1 q3 q4
  omega
theorem ParseEnd.alike {s : ByteArray} {n e m f : Int} (h : ParseEnd s n e) (k : ParseEnd s m f) : n = m ∧ e = f := by
  rcases h with ⟨rfl, h0, h1, h2⟩ | ⟨rfl, rfl, h⟩
  · rcases k with ⟨rfl, k0, k1, k2⟩ | ⟨rfl, rfl, k⟩
    · exact ⟨textI_inj h0 h1 k0 k1 (h2.trans k2.symm), rfl⟩
    · exact absurd h2 (k n h0 h1)
  · rcases k with ⟨rfl, k0, k1, k2⟩ | ⟨rfl, rfl, k⟩
    · exact absurd k2 (h m k0 k1)
    · exact ⟨rfl, rfl⟩
end Go.Proofs.YtgcdldbfikodaaaDoor.Hand
