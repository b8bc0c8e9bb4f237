/- The document's examples of money: they come out right. -/
import Derived.Test.YtdioaclegmalpaaDoorHandH
import Derived.Test.YtdioaclegmalpaaDoorHandG
namespace Go.Proofs.YtdioaclegmalpaaDoor.Hand
open Go.RowKit Go.Sort Go.Lib Go.Proofs.YtdioaclegmalpaaDoorW.PrintWords Go.Proofs.YtdioaclegmalpaaDoor.XA

set_option maxHeartbeats 4000000 in
set_option maxRecDepth 20000 in
theorem split_no (n p : Int) (h : n < 0 ∨ 9007199254740992 < n) (w : World) : Calls Tryd.prog 17 #[.int .i64 n, .int .i64 p] w fun e w' => e = .returned (.tuple #[.slice none 0 0, .int .i64 50]) ∧ Kept w w' := by
  have Q := fun w => money_Right.calls n _ w (right_f n)
  by_cases h0 : n < 0
  · clear h Q
    go_enter Tryd.func17, Tryd.ntmps17
    go_wp2_with fail
    go_ret2
    exact ⟨rfl, Kept.refl _⟩
  · have hq : rightS n = false := decide_eq_false (by omega)
    rw [hq] at Q
    clear h hq
    go_enter Tryd.func17, Tryd.ntmps17
    go_wp2_with fail
    refine (Q _).mono ?_
    rintro e w1 ⟨rfl, hd⟩
    have hz : Kept w w1 := (Kept.refl w).drawn hd
    clear hd
    go_wp2_with fail
    go_ret2
    exact ⟨rfl, hz⟩
set_option maxHeartbeats 4000000 in
set_option maxRecDepth 20000 in
theorem split_arg (n p : Int) (h0 : ¬ n < 0) (h1 : n ≤ 9007199254740992) (hp : p < 1 ∨ 1000 < p) (w : World) : Calls Tryd.prog 17 #[.int .i64 n, .int .i64 p] w fun e w' => e = .returned (.tuple #[.slice none 0 0, .int .i64 1]) ∧ Kept w w' := by
  have Q := fun w => money_Right.calls n _ w (right_f n)
  have hq : rightS n = true := decide_eq_true (by omega)
  rw [hq] at Q
  clear hq h1
  by_cases h2 : p < 1
  · clear hp
    go_enter Tryd.func17, Tryd.ntmps17
    go_wp2_with fail
    refine (Q _).mono ?_
    rintro e w1 ⟨rfl, hd⟩
    have hz : Kept w w1 := (Kept.refl w).drawn hd
    clear hd
    go_wp2_with fail
    go_ret2
    exact ⟨rfl, hz⟩
  · have h3 : 1000 < p := by omega
    clear hp
    go_enter Tryd.func17, Tryd.ntmps17
    go_wp2_with fail
    refine (Q _).mono ?_
    rintro e w1 ⟨rfl, hd⟩
    have hz : Kept w w1 := (Kept.refl w).drawn hd
    clear hd
    go_wp2_with fail
    go_ret2
    exact ⟨rfl, hz⟩

theorem textA : textM 1234 = ⟨#[49, 50, 46, 51, 52]⟩ := by
  apply ba_ext
  rw [textM_list, textL, if_neg (by decide), show (1234 : Int).natAbs = 1234 from rfl, magL, dec_big (1234 / 100) (by decide), dec_small (1234 / 100 / 10) (by decide)]
  decide
theorem textB : textM (-5) = ⟨#[45, 48, 46, 48, 53]⟩ := by
  apply ba_ext
  rw [textM_list, textL, if_pos (by decide), show (-5 : Int).natAbs = 5 from rfl, magL, dec_small (5 / 100) (by decide)]
  decide
theorem scaleA : scaleS 251 4602678819172646912 = (126, 0) := by
  unfold scaleS
  rw [if_neg (by decide), if_neg (by decide)]
  have e : scaleN (251 : Int).toNat 4602678819172646912 = 126 := by kernel_rfl
  rw [e]
  rfl
theorem addA : addS 9007199254740992 1 = (0, 50) := by
  unfold addS
  rw [if_neg (by unfold RightP; omega)]
theorem partsA : partsV 10 3 3 = #[.int .i64 4, .int .i64 3, .int .i64 3] := by kernel_rfl

set_option maxHeartbeats 4000000 in
set_option maxRecDepth 20000 in
theorem awake_any (z : World) (L : Laid z) (w : World) (hz : Kept z w) : Calls Tryd.prog 12 #[] w fun e w' => e = .returned (.bool true) ∧ Kept z w' := by
  have S := fun w => scale_any 251 4602678819172646912 (by decide) w
  have A := fun w h => add_k z w h 9007199254740992 1
  have P := fun w => split_ok 10 3 (by decide) (by decide) (by decide) w
  have HL := Lib.hid L
  have T := fun w h => text_any z L 1234 (by decide) (by decide) w h
  have R := fun w => rate_any 4602678819172646912 w (by decide)
  have hr : rateS 4602678819172646912 = true := by decide
  rw [scaleA] at S
  rw [addA] at A
  rw [textA] at T
  rw [hr] at R
  rw [partsA] at P
  have hsb : ((⟨#[49, 50, 46, 51, 52]⟩ : ByteArray).toList == [49, 50, 46, 51, 52]) = true := by rw [ByteArray.toList_eq]; decide
  clear L hr
  dsimp only at S A
  go_enter Tryd.func12, Tryd.ntmps12
  go_wp2_with fail
  refine (S _).mono ?_
  rintro e w1 ⟨rfl, hk⟩
  have hz1 : Kept z w1 := hz.then hk
  clear hk S hz
  go_wp2_with fail
  refine (A _ hz1).mono ?_
  rintro e w2 ⟨rfl, hz2⟩
  clear A hz1
  go_wp2_with fail
  refine (P _).mono ?_
  rintro e w3 ⟨g, _, rfl, hblk, hk⟩
  have hz3 : Kept z w3 := hz2.then hk
  have HB := Lib.hid hblk
  clear hk P hz2 hblk
  go_wp2_with fail
  refine (parse_any w3 (hz3.laid HL.out) ⟨#[45, 48, 46, 48, 53]⟩ (by decide) w3 (Kept.refl _)).mono ?_
  rintro e w4 ⟨n, x, rfl, hp, hk⟩
  have hz4 : Kept z w4 := hz3.then hk
  obtain ⟨rfl, rfl⟩ : -5 = n ∧ 0 = x := by
    have h := hp.alike (Or.inl ⟨rfl, by decide, by decide, textB⟩)
    exact ⟨h.1.symm, h.2.symm⟩
  have x0 : w4.cell? ⟨g, 0, none⟩ = some (.int .i64 4) := (HB.out.below hk HB.out.lt).cell 0
  clear hp hk hz3 HB HL
  go_wp2_with fail
  refine (T _ hz4).mono ?_
  rintro e w5 ⟨rfl, hz5⟩
  clear T hz4 x0
  go_wp2_with fail
  refine (R _).mono ?_
  rintro e w6 ⟨rfl, rfl⟩
  go_wp2_with fail
  go_ret
  exact ⟨rfl, hz5⟩
end Go.Proofs.YtdioaclegmalpaaDoor.Hand
