/- The clock's document's examples: they come out right. -/
import Derived.Test.YtgcdldbfikodaaaDoorHandD
namespace Go.Proofs.YtgcdldbfikodaaaDoor.Hand
open Go.RowKit Go.Sort Go.Lib Go.Proofs.YtgcdldbfikodaaaDoorW.PrintWords Go.Proofs.YtgcdldbfikodaaaDoor.XA

def sA : ByteArray := ⟨#[48, 32, 77, 111, 110, 32, 48, 52, 58, 51, 48]⟩
def sB : ByteArray := ⟨#[49, 32, 84, 117, 101, 32, 48, 49, 58, 48, 49]⟩
theorem text_list (t : Nat) : (textB t).data.toList = Lib.decDigits (t / 10080) ++ [32] ++ (dayB (t % 10080 / 1440)).data.toList ++ [32] ++ (twoB (t % 1440 / 60)).data.toList ++ [58] ++ (twoB (t % 60)).data.toList := by
  unfold textB
  simp only [ba_app]
theorem dec1 (n : Nat) (h : n < 10) : Lib.decDigits n = [UInt8.ofNat (48 + n)] := by
  rw [Lib.decDigits, dif_pos h]
theorem textA : textI 270 = sA := by
  rw [textI_of (by decide) (by decide)]
  apply ba_ext
  rw [text_list, dec1 _ (by decide), two_list _ (by decide), two_list _ (by decide)]
  decide
theorem textB' : textI 11581 = sB := by
  rw [textI_of (by decide) (by decide)]
  apply ba_ext
  rw [text_list, dec1 _ (by decide), two_list _ (by decide), two_list _ (by decide)]
  decide
theorem parseA {n x : Int} (h : ParseEnd sA n x) : n = 270 ∧ x = 0 :=
  h.alike (Or.inl ⟨rfl, by decide, by decide, textA⟩)

set_option maxRecDepth 20000 in
theorem awake_any (z : World) (L : Laid z) (w : World) (hz : Kept z w) : Calls Tryd.prog 9 #[] w fun e w' => e = .returned (.bool true) ∧ Kept z w' := by
  have D0 := fun w => clock_Day.calls 0 (-1) 0 w (by kernel_rfl)
  have D1 := fun w => clock_Day.calls 1710 1 0 w (by kernel_rfl)
  have PA := fun w h => parse_any z L sA (by decide) w h
  have B0 := fun w => clock_Bounds.calls 0 270 1710 w (by kernel_rfl)
  have W0 := fun w => clock_Weekday.calls (-1) 6 w (by kernel_rfl)
  have T0 := fun w h => text_any z L 11581 w h
  rw [textB'] at T0
  have hsb : (sB.toList == [49, 32, 84, 117, 101, 32, 48, 49, 58, 48, 49]) = true := by rw [ByteArray.toList_eq]; decide
  clear L
  go_enter Tryd.func9, Tryd.ntmps9
  go_wp2_with fail
  refine (D0 _).mono ?_
  rintro e w1 ⟨rfl, hd⟩
  have hz1 := hz.drawn hd
  clear hd D0
  go_wp2_with fail
  refine (D1 _).mono ?_
  rintro e w2 ⟨rfl, hd⟩
  have hz2 := hz1.drawn hd
  clear hd D1
  go_wp2_with fail
  refine (PA _ hz2).mono ?_
  rintro e w3 ⟨n, x, rfl, hp, hz3⟩
  obtain ⟨rfl, rfl⟩ := parseA hp
  clear hp PA
  go_wp2_with fail
  refine (B0 _).mono ?_
  rintro e w4 ⟨rfl, hd⟩
  have hz4 := hz3.drawn hd
  clear hd B0
  go_wp2_with fail
  refine (W0 _).mono ?_
  rintro e w5 ⟨rfl, hd⟩
  have hz5 := hz4.drawn hd
  clear hd W0
  go_wp2_with fail
  refine (T0 _ hz5).mono ?_
  rintro e w6 ⟨rfl, hz6⟩
  go_wp2_with fail
  go_ret
  exact ⟨rfl, hz6⟩
end Go.Proofs.YtgcdldbfikodaaaDoor.Hand
