/- The clock's texts by hand: Text. -/
import Derived.Test.YtgcdldbfikodaaaDoorHandA
import Derived.Deep.RegionHeld3
namespace Go.Proofs.YtgcdldbfikodaaaDoor.Hand
open Go.RowKit Go.Sort Go.Lib Go.Proofs.YtgcdldbfikodaaaDoorW.PrintWords Go.Proofs.YtgcdldbfikodaaaDoor.XA

/-- 'w' behind 'z': what lay in z lies in w as it lay. -/
def Kept (z w : World) : Prop := Below z.heap.size z w
theorem Kept.refl (w : World) : Kept w w := Below.refl _ _
theorem Kept.drew (w : World) : Kept w w.drew := ⟨rfl, rfl, rfl, Nat.le_refl _, fun _ _ => rfl⟩
theorem Kept.laid {z w : World} (h : Kept z w) (L : Laid z) : Laid w := L.below h
theorem Kept.then {z w w' : World} (h : Kept z w) (h' : Below w.heap.size w w') : Kept z w' :=
  Below.trans h ⟨h'.os, h'.tape, h'.output, h'.size, fun k hk => h'.block k (Nat.lt_of_lt_of_le hk h.size)⟩

theorem Kept.drawn {z w w' : World} (h : Kept z w) (h' : Drawn0 w w') : Kept z w' := h.then h'.below
theorem names_k (z w : World) (h : Kept z w) : Calls Tryd.prog 27 #[] w fun e w' => e = .returned (.agg #[.string ⟨#[77, 111, 110]⟩, .string ⟨#[84, 117, 101]⟩, .string ⟨#[87, 101, 100]⟩, .string ⟨#[84, 104, 117]⟩, .string ⟨#[70, 114, 105]⟩, .string ⟨#[83, 97, 116]⟩, .string ⟨#[83, 117, 110]⟩]) ∧ Kept z w' :=
  (names_any w).mono fun _ _ ⟨he, hb⟩ => ⟨he, h.then hb⟩
theorem two_k (z : World) (i : Nat) (hi : i < 100) (w : World) (h : Kept z w) : Calls Tryd.prog 28 #[.int .i64 i] w fun e w' => e = .returned (.string (twoB i)) ∧ Kept z w' :=
  (two_any i hi w).mono fun _ _ ⟨he, hw⟩ => ⟨he, by rw [hw]; exact h⟩
theorem itoa_k (z : World) (L : Laid z) (i : Nat) (hi : i < 9223372036854775807) (w : World) (h : Kept z w) : Calls Tryd.prog 26 #[.int .i64 i] w fun e w' => e = .returned (.string ⟨(Lib.decDigits i).toArray⟩) ∧ Kept z w' :=
  (Tryd.strconv_Itoa i (by omega) (by omega) w (h.laid L).tab).mono fun e w' ⟨he, k, os, hw⟩ => by
    refine ⟨?_, ?_⟩
    · rw [he]
      have : Lib.itoa (i : Int) = Lib.decDigits i := by unfold Lib.itoa; rw [if_neg (by omega), Int.toNat_natCast]
      rw [this]
    · rw [hw]
      exact h.then (Lib.below_grow _ _ (Nat.le_refl _) _ _)

theorem right_any (t : Int) (w : World) : Calls Tryd.prog 14 #[.int .i64 t] w fun e w' => e = .returned (.bool (decide (0 ≤ t ∧ t ≤ 2147483648))) ∧ Drawn0 w w' := by
  refine clock_Right.calls t _ w ?_
  unfold clock_Right.f
  by_cases h : 0 ≤ t
  · rw [if_pos h]; simp [h]
  · rw [if_neg h]; simp [h]

theorem two_len (i : Nat) (hi : i < 60) : (twoB i).size ≤ 70 := by
  unfold twoB
  have h := dec_len i
  have e : (⟨(Lib.decDigits i).toArray⟩ : ByteArray).size = (Lib.decDigits i).length := by
    show (Lib.decDigits i).toArray.size = _
    simp
  split
  · rw [ByteArray.size_append, e]
    show 1 + _ ≤ 70
    omega
  · rw [e]; omega
def dayB (d : Nat) : ByteArray := nameL.getD d ⟨#[]⟩
def textB (t : Nat) : ByteArray :=
  ((((((⟨(Lib.decDigits (t / 10080)).toArray⟩ : ByteArray) ++ ⟨#[32]⟩) ++ dayB (t % 10080 / 1440)) ++ ⟨#[32]⟩) ++ twoB (t % 1440 / 60)) ++ ⟨#[58]⟩) ++ twoB (t % 60)
def textI (t : Int) : ByteArray := if 0 ≤ t ∧ t ≤ 2147483648 then textB t.toNat else ⟨#[]⟩

def dayV : Value := .agg #[.string ⟨#[77, 111, 110]⟩, .string ⟨#[84, 117, 101]⟩, .string ⟨#[87, 101, 100]⟩, .string ⟨#[84, 104, 117]⟩, .string ⟨#[70, 114, 105]⟩, .string ⟨#[83, 97, 116]⟩, .string ⟨#[83, 117, 110]⟩]
theorem one_size (c : UInt8) : (⟨#[c]⟩ : ByteArray).size = 1 := rfl
theorem day_index (d : Nat) (hd : d < 7) (w : World) : (Instr.index 39 (.agg #[.string ⟨#[77, 111, 110]⟩, .string ⟨#[84, 117, 101]⟩, .string ⟨#[87, 101, 100]⟩, .string ⟨#[84, 104, 117]⟩, .string ⟨#[70, 114, 105]⟩, .string ⟨#[83, 97, 116]⟩, .string ⟨#[83, 117, 110]⟩]) (.int .i64 d)).run Tryd.prog w = .ok (.string (dayB d)) w := by
  match d, hd with
  | 0, _ => rfl
  | 1, _ => rfl
  | 2, _ => rfl
  | 3, _ => rfl
  | 4, _ => rfl
  | 5, _ => rfl
  | 6, _ => rfl
  | k + 7, h => exact absurd h (by omega)
theorem day_size (d : Nat) (hd : d < 7) : (dayB d).size = 3 := by
  match d, hd with
  | 0, _ => rfl
  | 1, _ => rfl
  | 2, _ => rfl
  | 3, _ => rfl
  | 4, _ => rfl
  | 5, _ => rfl
  | 6, _ => rfl
  | k + 7, h => exact absurd h (by omega)
set_option maxHeartbeats 4000000 in
set_option maxRecDepth 20000 in
theorem text_any (z : World) (L : Laid z) (t : Int) (w : World) (hz : Kept z w) : Calls Tryd.prog 10 #[.int .i64 t] w fun e w' => e = .returned (.string (textI t)) ∧ Kept z w' := by
  by_cases h : 0 ≤ t ∧ t ≤ 2147483648
  · have e : textI t = textB t.toNat := if_pos h
    rw [e]
    obtain ⟨n, rfl⟩ : ∃ n : Nat, t = n := ⟨t.toNat, by omega⟩
    rw [Int.toNat_natCast]
    have hn : n ≤ 2147483648 := by omega
    have hR : decide ((0 : Int) ≤ n ∧ (n : Int) ≤ 2147483648) = true := decide_eq_true h
    have KL := Lib.hid L
    have K0 := right_any n w
    rw [hR] at K0
    have q0 : IntKind.i64.wrap (Int.tdiv n 10080) = ((n / 10080 : Nat) : Int) := by rw [IntKind.wrap_i64, Int.tdiv_eq_ediv_of_nonneg (by omega)]; omega
    have q1 : Int.tmod n 10080 = ((n % 10080 : Nat) : Int) := by rw [Int.tmod_eq_emod_of_nonneg (by omega)]; omega
    have q2 : IntKind.i64.wrap (Int.tdiv ((n % 10080 : Nat) : Int) 1440) = ((n % 10080 / 1440 : Nat) : Int) := by rw [IntKind.wrap_i64, Int.tdiv_eq_ediv_of_nonneg (by omega)]; omega
    have q3 : Int.tmod n 1440 = ((n % 1440 : Nat) : Int) := by rw [Int.tmod_eq_emod_of_nonneg (by omega)]; omega
    have q4 : IntKind.i64.wrap (Int.tdiv ((n % 1440 : Nat) : Int) 60) = ((n % 1440 / 60 : Nat) : Int) := by rw [IntKind.wrap_i64, Int.tdiv_eq_ediv_of_nonneg (by omega)]; omega
    have q5 : Int.tmod n 60 = ((n % 60 : Nat) : Int) := by rw [Int.tmod_eq_emod_of_nonneg (by omega)]; omega
    have mx := mixed
    have KA := fun w h => itoa_k z L (n / 10080) (by omega) w h
    have KX := fun w h => two_k z (n % 1440 / 60) (by omega) w h
    have KY := fun w h => two_k z (n % 60) (by omega) w h
    have hd : n % 10080 / 1440 < 7 := by omega
    have ha : (⟨(Lib.decDigits (n / 10080)).toArray⟩ : ByteArray).size ≤ 213050 := by
      have := dec_len (n / 10080)
      show (Lib.decDigits (n / 10080)).toArray.size ≤ 213050
      simp only [List.size_toArray]
      omega
    have hx : (twoB (n % 1440 / 60)).size ≤ 70 := two_len _ (by omega)
    have hy : (twoB (n % 60)).size ≤ 70 := two_len _ (by omega)
    unfold textB
    generalize (⟨(Lib.decDigits (n / 10080)).toArray⟩ : ByteArray) = a at KA ha ⊢
    generalize twoB (n % 1440 / 60) = x at KX hx ⊢
    generalize twoB (n % 60) = y at KY hy ⊢
    have hix := day_index (n % 10080 / 1440) hd
    have hb := day_size (n % 10080 / 1440) hd
    clear hd
    generalize dayB (n % 10080 / 1440) = b at hix hb ⊢
    generalize ((n % 10080 / 1440 : Nat) : Int) = d at q2 hix
    generalize ((n / 10080 : Nat) : Int) = A at q0 KA
    generalize ((n % 10080 : Nat) : Int) = B at q1 q2
    generalize ((n % 1440 : Nat) : Int) = C at q3 q4
    generalize ((n % 1440 / 60 : Nat) : Int) = X at q4 KX
    generalize ((n % 60 : Nat) : Int) = Y at q5 KY
    clear L hR e h
    generalize (n : Int) = t at q0 q1 q3 q5 K0 ⊢
    clear hn
    have l0 := fun w => run_string_add_sum (P := Tryd.prog) w (a) ⟨#[32]⟩ (by simp only [one_size]; omega)
    have l1 := fun w => run_string_add_sum (P := Tryd.prog) w ((a ++ ⟨#[32]⟩ : ByteArray)) b (by simp only [ByteArray.size_append, one_size]; omega)
    have l2 := fun w => run_string_add_sum (P := Tryd.prog) w (((a ++ ⟨#[32]⟩ : ByteArray) ++ b : ByteArray)) ⟨#[32]⟩ (by simp only [ByteArray.size_append, one_size]; omega)
    have l3 := fun w => run_string_add_sum (P := Tryd.prog) w ((((a ++ ⟨#[32]⟩ : ByteArray) ++ b : ByteArray) ++ ⟨#[32]⟩ : ByteArray)) x (by simp only [ByteArray.size_append, one_size]; omega)
    have l4 := fun w => run_string_add_sum (P := Tryd.prog) w (((((a ++ ⟨#[32]⟩ : ByteArray) ++ b : ByteArray) ++ ⟨#[32]⟩ : ByteArray) ++ x : ByteArray)) ⟨#[58]⟩ (by simp only [ByteArray.size_append, one_size]; omega)
    have l5 := fun w => run_string_add_sum (P := Tryd.prog) w ((((((a ++ ⟨#[32]⟩ : ByteArray) ++ b : ByteArray) ++ ⟨#[32]⟩ : ByteArray) ++ x : ByteArray) ++ ⟨#[58]⟩ : ByteArray)) y (by simp only [ByteArray.size_append, one_size]; omega)
    clear ha hb hx hy
    have K2 : ∀ (v : Int) (r : ByteArray) (w : World), (v = X ∧ r = x ∨ v = Y ∧ r = y) → Kept z w → Calls Tryd.prog 28 #[.int .i64 v] w fun e w' => e = .returned (.string r) ∧ Kept z w' := by
      rintro v r w (⟨rfl, rfl⟩ | ⟨rfl, rfl⟩) h
      · exact KX w h
      · exact KY w h
    clear KX KY
    go_enter Tryd.func10, Tryd.ntmps10
    go_wp2_with fail
    refine K0.mono ?_
    rintro e w1 ⟨rfl, hd0⟩
    replace hz := hz.drawn hd0
    clear K0 hd0
    go_wp2_with fail
    go_region_held3 (fun w' => Kept z w') (first | assumption | trivial | exact Kept.then hz ⟨rfl, rfl, rfl, Nat.le_refl _, fun _ _ => rfl⟩)
      (first
        | (go_at_call 26; refine (KA _ (by assumption)).mono ?_; rintro e w' ⟨rfl, hk⟩)
        | (go_at_call 27; refine (names_k z _ (by assumption)).mono ?_; rintro e w' ⟨rfl, hk⟩)
        | (go_at_call 28; refine (K2 _ _ _ (by first | exact Or.inl ⟨rfl, rfl⟩ | exact Or.inr ⟨rfl, rfl⟩) (by assumption)).mono ?_; rintro e w' ⟨rfl, hk⟩))
    all_goals go_wp2_with fail
    all_goals go_ret
    all_goals exact ⟨rfl, by assumption⟩
  · have e : textI t = ⟨#[]⟩ := if_neg h
    rw [e]
    have K0 := right_any t w
    rw [show decide (0 ≤ t ∧ t ≤ 2147483648) = false from decide_eq_false h] at K0
    clear e h L
    go_enter Tryd.func10, Tryd.ntmps10
    go_wp2_with fail
    refine K0.mono ?_
    rintro e w1 ⟨rfl, hd0⟩
    replace hz := hz.drawn hd0
    clear K0 hd0
    go_wp2_with fail
    go_ret
    exact ⟨rfl, hz⟩

end Go.Proofs.YtgcdldbfikodaaaDoor.Hand
