/- MoneyTurns, walked. -/
import Derived.Test.YtdioaclegmalpaaDoorHandI
namespace Go.Proofs.YtdioaclegmalpaaDoor.Hand
open Go.RowKit Go.Sort Go.Lib Go.Proofs.YtdioaclegmalpaaDoorW.PrintWords Go.Proofs.YtdioaclegmalpaaDoor.XA

theorem lit3 (w : World) (a b c : Int) : Kd.C (Kd.int .i64) (w.alloc (.cells #[.int .i64 a, .int .i64 b, .int .i64 c] 3)) (some ⟨w.heap.size, 0, none⟩) [a, b, c].length [a, b, c] := by
  refine ⟨rfl, by simp, fun _ => ⟨_, rfl, fun j p hj => ⟨[.int .i64 p], rfl, rfl, fun i u hu => ?_⟩⟩⟩
  have hi : i = 0 := by
    have := (List.getElem?_eq_some_iff.1 hu).1
    simpa using this
  subst hi
  have es : Kd.sz (Kd.int .i64) = 1 := rfl
  have ea : (⟨w.heap.size, 0, none⟩ : Addr).add (j * 1 + 0) = ⟨w.heap.size, j, none⟩ := by
    unfold Addr.add
    split
    · rename_i h
      rw [show j = 0 by omega]
    · simp
  rw [es, ea, World.cell?_alloc_at _ _ _ _ rfl]
  match j, hj with
  | 0, hj => cases hj; simpa using hu
  | 1, hj => cases hj; simpa using hu
  | 2, hj => cases hj; simpa using hu
theorem sum3 {a b c : Int} (h : (sumFrom 0 [a, b, c]).2 = 0) : (sumFrom 0 [a, b, c]).1 = a + b + c := by
  have two : ∀ x y : Int, (addS x y).2 = 0 → (addS x y).1 = x + y := by
    intro x y h
    unfold addS at h ⊢
    split
    · rfl
    · rename_i g; rw [if_neg g] at h; exact absurd h (by decide)
  unfold sumFrom at h ⊢
  by_cases h1 : (addS 0 a).2 = 0
  · rw [if_pos h1, two _ _ h1] at h ⊢
    unfold sumFrom at h ⊢
    by_cases h2 : (addS (0 + a) b).2 = 0
    · rw [if_pos h2, two _ _ h2] at h ⊢
      unfold sumFrom at h ⊢
      by_cases h3 : (addS (0 + a + b) c).2 = 0
      · rw [if_pos h3, two _ _ h3]
        unfold sumFrom
        show 0 + a + b + c = a + b + c
        omega
      · rw [if_neg h3] at h
        exact absurd h (by decide)
    · rw [if_neg h2] at h
      exact absurd h (by decide)
  · rw [if_neg h1] at h
    exact absurd h (by decide)
/-- What MoneyTurns says, in plain numbers. -/
theorem turn_plain (a b c : Int) : (sumFrom 0 [a, b, c]).2 = 0 → (sumFrom 0 [c, a, b]).2 = 0 → (sumFrom 0 [a, b, c]).1 = (sumFrom 0 [c, a, b]).1 := by
  intro h1 h2
  rw [sum3 h1, sum3 h2]
  omega
theorem sub_plain (a b : Int) : (¬ (subS a b).2 = 0 ∧ (subS a b).1 = 0) ∨ ((subS a b).2 = 0 ∧ addS (subS a b).1 b = (a, 0)) := by
  unfold subS
  by_cases h : RightP a ∧ RightP b ∧ RightP (a - b)
  · right
    rw [if_pos h]
    refine ⟨rfl, ?_⟩
    unfold addS
    dsimp only
    rw [show a - b + b = a by omega, if_pos ⟨h.2.2, h.2.1, h.1⟩]
  · left
    rw [if_neg h]
    exact ⟨by decide, rfl⟩
set_option maxHeartbeats 4000000 in
set_option maxRecDepth 20000 in
theorem turns_any (a b c : Int) (w : World) (L : Laid w) : Calls Tryd.prog 10 #[.int .i64 a, .int .i64 b, .int .i64 c] w fun e w' => e = .returned (.bool true) ∧ Kept w w' := by
  obtain ⟨z, hzw⟩ : ∃ z, z = w := ⟨_, rfl⟩
  have hz : Kept z w := by rw [hzw]; exact Kept.refl _
  suffices H : Calls Tryd.prog 10 #[.int .i64 a, .int .i64 b, .int .i64 c] w fun e w' => e = .returned (.bool true) ∧ Kept z w' by rw [hzw] at H; exact H
  rw [← hzw] at L
  clear hzw
  have AW := fun w h => awake_any z L w h
  have K1 : ∀ w, Kept z w → Calls Tryd.prog 27 #[.slice (some ⟨w.heap.size, 0, none⟩) 3 3] (w.alloc (.cells #[.int .i64 a, .int .i64 b, .int .i64 c] 3)) fun e w' => e = .returned (.tuple #[.int .i64 (sumFrom 0 [a, b, c]).1, .int .i64 (sumFrom 0 [a, b, c]).2]) ∧ Kept z w' := fun w h => sum_k z _ (h.then ((Below.refl _ _).alloc (Nat.le_refl _) _)) _ 3 _ (lit3 w a b c) (Nat.le_refl _) (by simp)
  have K2 : ∀ w, Kept z w → Calls Tryd.prog 27 #[.slice (some ⟨w.heap.size, 0, none⟩) 3 3] (w.alloc (.cells #[.int .i64 c, .int .i64 a, .int .i64 b] 3)) fun e w' => e = .returned (.tuple #[.int .i64 (sumFrom 0 [c, a, b]).1, .int .i64 (sumFrom 0 [c, a, b]).2]) ∧ Kept z w' := fun w h => sum_k z _ (h.then ((Below.refl _ _).alloc (Nat.le_refl _) _)) _ 3 _ (lit3 w c a b) (Nat.le_refl _) (by simp)
  have K3 := fun w h => sub_k z w h a b
  have K4 := fun w h => add_k z w h (subS a b).1 b
  have tp := turn_plain a b c
  have sp := sub_plain a b
  generalize (sumFrom 0 [a, b, c]).1 = v1 at K1 tp
  generalize (sumFrom 0 [a, b, c]).2 = v2 at K1 tp
  generalize (sumFrom 0 [c, a, b]).1 = v3 at K2 tp
  generalize (sumFrom 0 [c, a, b]).2 = v4 at K2 tp
  generalize (subS a b).1 = v5 at K3 K4 sp
  generalize (subS a b).2 = v6 at K3 sp
  have TP := Lib.hid tp
  clear L tp
  go_enter Tryd.func10, Tryd.ntmps10
  go_wp2_with fail
  refine (AW _ hz).mono ?_
  rintro e w1 ⟨rfl, hz1⟩
  clear AW hz
  go_wp2_with fail
  refine (K1 _ hz1).mono ?_
  rintro e w2 ⟨rfl, hz2⟩
  clear K1 hz1
  go_wp2_with fail
  refine (K2 _ hz2).mono ?_
  rintro e w3 ⟨rfl, hz3⟩
  clear K2 hz2
  obtain hc | ⟨hb, hc⟩ | ⟨hc, hd, he⟩ : ¬ v2 = 0 ∨ (v2 = 0 ∧ ¬ v4 = 0) ∨ (v2 = 0 ∧ v4 = 0 ∧ v1 = v3) := by
    by_cases h1 : v2 = 0
    · by_cases h2 : v4 = 0
      · exact .inr (.inr ⟨h1, h2, TP.out h1 h2⟩)
      · exact .inr (.inl ⟨h1, h2⟩)
    · exact .inl h1
  · clear TP
    go_wp2_with fail
    refine (K3 _ hz3).mono ?_
    rintro e w4 ⟨rfl, hz4⟩
    clear K3 hz3
    rcases sp with ⟨s1, s2⟩ | ⟨s1, s2⟩
    · go_wp2_with fail
      go_ret
      exact ⟨by simp, hz4⟩
    · rw [s2] at K4
      dsimp only at K4
      clear s2
      go_wp2_with fail
      refine (K4 _ hz4).mono ?_
      rintro e w5 ⟨rfl, hz5⟩
      go_wp2_with fail
      go_ret
      exact ⟨by simp, hz5⟩
  · subst hb
    clear TP
    go_wp2_with fail
    refine (K3 _ hz3).mono ?_
    rintro e w4 ⟨rfl, hz4⟩
    clear K3 hz3
    rcases sp with ⟨s1, s2⟩ | ⟨s1, s2⟩
    · go_wp2_with fail
      go_ret
      exact ⟨by simp, hz4⟩
    · rw [s2] at K4
      dsimp only at K4
      clear s2
      go_wp2_with fail
      refine (K4 _ hz4).mono ?_
      rintro e w5 ⟨rfl, hz5⟩
      go_wp2_with fail
      go_ret
      exact ⟨by simp, hz5⟩
  · subst hc hd he
    clear TP
    go_wp2_with fail
    refine (K3 _ hz3).mono ?_
    rintro e w4 ⟨rfl, hz4⟩
    clear K3 hz3
    rcases sp with ⟨s1, s2⟩ | ⟨s1, s2⟩
    · go_wp2_with fail
      go_ret
      exact ⟨by simp, hz4⟩
    · rw [s2] at K4
      dsimp only at K4
      clear s2
      go_wp2_with fail
      refine (K4 _ hz4).mono ?_
      rintro e w5 ⟨rfl, hz5⟩
      go_wp2_with fail
      go_ret
      exact ⟨by simp, hz5⟩
end Go.Proofs.YtdioaclegmalpaaDoor.Hand
