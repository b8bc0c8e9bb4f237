/- ClockBack, walked. -/
import Derived.Test.YtgcdldbfikodaaaDoorHandF
namespace Go.Proofs.YtgcdldbfikodaaaDoor.Hand
open Go.RowKit Go.Sort Go.Lib Go.Proofs.YtgcdldbfikodaaaDoorW.PrintWords Go.Proofs.YtgcdldbfikodaaaDoor.XA

theorem text_small (t : Int) (h0 : 0 ≤ t) (h1 : t ≤ 2147483648) : (textI t).size ≤ 281474976710656 := by
  rw [textI_of h0 h1]
  obtain ⟨n, hn⟩ : ∃ n, n = t.toNat := ⟨_, rfl⟩
  rw [← hn]
  have hn' : n ≤ 2147483648 := by omega
  have ha : (⟨(Lib.decDigits (n / 10080)).toArray⟩ : ByteArray).size ≤ 213050 := by
    have := dec_len (n / 10080)
    show (Lib.decDigits (n / 10080)).toArray.size ≤ 213050
    simp only [List.size_toArray]
    omega
  have hx : (twoB (n % 1440 / 60)).size ≤ 70 := two_len _ (by omega)
  have hy : (twoB (n % 60)).size ≤ 70 := two_len _ (by omega)
  have hb := day_size (n % 10080 / 1440) (by omega)
  unfold textB
  simp only [ByteArray.size_append, one_size]
  omega

/-- What ClockBack says of a time that may be, in plain numbers. -/
theorem back_plain (t : Int) (h0 : 0 ≤ t) (h1 : t ≤ 2147483648) : ∃ d w k : Int, dayS t = (d, 0) ∧ weekS d = w ∧ weekdayS d = k ∧ boundsS d = (1440 * d + 270, 1440 * d + 1710) ∧ 1440 * d + 270 ≤ t ∧ t < 1440 * d + 1710 ∧ w * 7 + k = d ∧ 0 ≤ k ∧ k ≤ 6 ∧ -1 ≤ d ∧ d ≤ 1491308 ∧ -1 ≤ w ∧ w ≤ 213044 ∧ (dayS (t + 1440) = (d + 1, 0) ∨ dayS (t + 1440) = (0, 60)) ∧ weekdayS (d + 1) = (k + 1).tmod 7 ∧ (dayS (t + 10080) = (d + 7, 0) ∨ dayS (t + 10080) = (0, 60)) ∧ weekS (d + 7) = w + 1 ∧ weekdayS (d + 7) = k := by
  refine ⟨(t - 270) / 1440, (t - 270) / 1440 / 7, (t - 270) / 1440 % 7, ?_, ?_, ?_, ?_, ?_, ?_, ?_, ?_, ?_, ?_, ?_, ?_, ?_, ?_, ?_, ?_, ?_, ?_⟩
  · unfold dayS; rw [if_pos ⟨h0, h1⟩]
  · unfold weekS; rw [if_pos (by omega)]
  · unfold weekdayS; rw [if_pos (by omega)]
  · unfold boundsS; rw [if_pos (by omega)]
  · omega
  · omega
  · omega
  · omega
  · omega
  · omega
  · omega
  · omega
  · omega
  · unfold dayS
    by_cases h : t + 1440 ≤ 2147483648
    · left; rw [if_pos (by omega)]; congr 1; omega
    · right; rw [if_neg (by omega)]
  · unfold weekdayS; rw [if_pos (by omega), tm, if_pos (by omega)]; omega
  · unfold dayS
    by_cases h : t + 10080 ≤ 2147483648
    · left; rw [if_pos (by omega)]; congr 1; omega
    · right; rw [if_neg (by omega)]
  · unfold weekS; rw [if_pos (by omega)]; omega
  · unfold weekdayS; rw [if_pos (by omega)]; omega
theorem bounds_apart (t d other : Int) (h0 : 0 ≤ t) (h1 : 1440 * d + 270 ≤ t) (h2 : t < 1440 * d + 1710) : t < (boundsS other).1 ∨ (boundsS other).2 ≤ t ∨ other = d := by
  unfold boundsS
  split
  · dsimp only; omega
  · right; left; exact h0

set_option maxHeartbeats 8000000 in
set_option maxRecDepth 20000 in
theorem back_any (t : Int) (s : ByteArray) (hs : s.size ≤ 281474976710656) (other : Int) (w : World) (L : Laid w) : Calls Tryd.prog 5 #[.int .i64 t, .string s, .int .i64 other] w fun e w' => e = .returned (.bool true) ∧ Kept w w' := by
  obtain ⟨z, hzw⟩ : ∃ z, z = w := ⟨_, rfl⟩
  have hz : Kept z w := by rw [hzw]; exact Kept.refl _
  suffices H : Calls Tryd.prog 5 #[.int .i64 t, .string s, .int .i64 other] w fun e w' => e = .returned (.bool true) ∧ Kept z w' by rw [hzw] at H; exact H
  rw [← hzw] at L
  clear hzw
  have A := fun w h => awake_any z L w h
  have T := fun n w h => text_any z L n w h
  have PS := fun w h => parse_any z L s hs w h
  have P := fun r (hr : ByteArray.size r ≤ 281474976710656) w h => parse_any z L r hr w h
  clear L
  by_cases ht : 0 ≤ t ∧ t ≤ 2147483648
  · obtain ⟨d, wk, k, e1, e2, e3, e4, h1, h2, h3, h4, h5, h6, h7, h8, h9, e5, e6, e7, e8, e9⟩ := back_plain t ht.1 ht.2
    have hap := bounds_apart t d other ht.1 h1 h2
    have PT := fun w h => P (textI t) (text_small t ht.1 ht.2) w h
    have PE : ParseEnd (textI t) t 0 := Or.inl ⟨rfl, ht.1, ht.2, rfl⟩
    have D0 := fun w h => day_k z w h t
    have D1 := fun w h => day_k z w h (t + 1440)
    have D2 := fun w h => day_k z w h (t + 10080)
    have B0 := fun w h => bounds_k z w h d
    have B1 := fun w h => bounds_k z w h other
    have W0 := fun w h => week_k z w h d
    have W7 := fun w h => week_k z w h (d + 7)
    have K0 := fun w h => weekday_k z w h d
    have K1 := fun w h => weekday_k z w h (d + 1)
    have K7 := fun w h => weekday_k z w h (d + 7)
    rw [e1] at D0
    rw [e2] at W0
    rw [e3] at K0
    rw [e4] at B0
    rw [e6] at K1
    rw [e8] at W7
    rw [e9] at K7
    dsimp only at D0 B0
    have TT := fun w h => T t w h
    clear P
    obtain ⟨t1, f1⟩ : ∃ t1, t1 = t + 1440 := ⟨_, rfl⟩
    obtain ⟨t7, f2⟩ : ∃ t7, t7 = t + 10080 := ⟨_, rfl⟩
    obtain ⟨d1, f3⟩ : ∃ d1, d1 = d + 1 := ⟨_, rfl⟩
    obtain ⟨d7, f4⟩ : ∃ d7, d7 = d + 7 := ⟨_, rfl⟩
    obtain ⟨w1, f5⟩ : ∃ w1, w1 = wk + 1 := ⟨_, rfl⟩
    obtain ⟨k1, f6⟩ : ∃ k1, k1 = k + 1 := ⟨_, rfl⟩
    obtain ⟨m7, f7⟩ : ∃ m7, m7 = wk * 7 := ⟨_, rfl⟩
    have p1 : IntKind.i64.wrap (t + 1440) = t1 := by rw [IntKind.wrap_i64]; omega
    have p2 : IntKind.i64.wrap (t + 10080) = t7 := by rw [IntKind.wrap_i64]; omega
    have p3 : IntKind.i64.wrap (d + 1) = d1 := by rw [IntKind.wrap_i64]; omega
    have p5 : IntKind.i64.wrap (wk + 1) = w1 := by rw [IntKind.wrap_i64]; omega
    have p6 : IntKind.i64.wrap (k + 1) = k1 := by rw [IntKind.wrap_i64]; omega
    have p7 : IntKind.i64.wrap (wk * 7) = m7 := by rw [IntKind.wrap_i64]; omega
    have p8 : IntKind.i64.wrap (m7 + k) = d := by rw [IntKind.wrap_i64]; omega
    have HE5 := Lib.hid e5
    have HE7 := Lib.hid e7
    rw [← f1] at D1 HE5
    rw [← f2] at D2 HE7
    rw [← f3] at K1 HE5
    rw [← f4] at W7 K7 HE7
    rw [← f5] at W7
    rw [← f6] at K1
    clear e1 e2 e3 e4 e5 e6 e7 e8 e9 f1 f2 f3 f4 f5 f6 f7 h3 h6 h7 h8 h9
    obtain ⟨q, fq⟩ : ∃ q, q = k1.tmod 7 := ⟨_, rfl⟩
    rw [← fq] at K1
    have p9 : k1.tmod 7 = q := fq.symm
    clear fq
    obtain ⟨lo, fl⟩ : ∃ lo, lo = 1440 * d + 270 := ⟨_, rfl⟩
    obtain ⟨hi, fh⟩ : ∃ hi, hi = 1440 * d + 1710 := ⟨_, rfl⟩
    rw [← fl] at B0 h1
    rw [← fh] at B0 h2
    clear fl fh
    generalize textI t = st at PT PE TT
    generalize (boundsS other).1 = oa at B1 hap
    generalize (boundsS other).2 = ob at B1 hap
    have g1 : ¬ t < lo := by omega
    have g2 : ¬ hi ≤ t := by omega
    have j1 : ¬ k < 0 := by omega
    have j2 : ¬ 6 < k := by omega
    clear h4 h5 h1
    have HPE := Lib.hid PE
    have Hap := Lib.hid hap
    clear PE hap
    go_enter Tryd.func5, Tryd.ntmps5
    go_wp2_with fail
    refine (A _ hz).mono ?_
    rintro e w1' ⟨rfl, hz1⟩
    clear A
    go_wp2_with fail
    refine (PS _ hz1).mono ?_
    rintro e w2 ⟨n, x, rfl, hp, hz2⟩
    have TN := fun w h => T n w h
    clear T PS hs
    rcases hp with ⟨rfl, hn0, hn1, hns⟩ | ⟨rfl, rfl, hp⟩
    · rw [hns] at TN
      clear hn0 hn1 hns
      go_wp2_with fail
      refine (TN _ hz2).mono ?_
      rintro e w3 ⟨rfl, hz3⟩
      clear TN
      go_wp2_with fail
      refine (D0 _ hz3).mono ?_
      rintro e w4 ⟨rfl, hz4⟩
      go_wp2_with fail
      refine (TT _ hz4).mono ?_
      rintro e w5 ⟨rfl, hz5⟩
      go_wp2_with fail
      refine (PT _ hz5).mono ?_
      rintro e w6 ⟨m, g, rfl, hp, hz6⟩
      obtain ⟨rfl, rfl⟩ : t = m ∧ 0 = g := by have hq := hp.alike HPE.out; exact ⟨hq.1.symm, hq.2.symm⟩
      clear HPE hp
      go_wp2_with fail
      refine (B0 _ hz6).mono ?_
      rintro e w7 ⟨rfl, hz7⟩
      go_wp2_with fail
      refine (B1 _ hz7).mono ?_
      rintro e w8 ⟨rfl, hz8⟩
      clear D0 TT PT B0 B1
      obtain ha | ⟨g3, ha⟩ | ⟨g3, g4, ha⟩ : ¬ oa ≤ t ∨ (oa ≤ t ∧ ¬ t < ob) ∨ (oa ≤ t ∧ t < ob ∧ other = d) := by have := Hap.out; omega
      · clear Hap
        go_wp2_with fail
        refine (W0 _ hz8).mono ?_
        rintro e w9 ⟨rfl, hz9⟩
        go_wp2_with fail
        refine (K0 _ hz9).mono ?_
        rintro e w10 ⟨rfl, hz10⟩
        go_wp2_with fail
        rcases HE5.out with e5 | e5
        · rw [e5] at D1
          dsimp only at D1
          clear e5 HE5
          refine (D1 _ hz10).mono ?_
          rintro e w11 ⟨rfl, hz11⟩
          go_wp2_with fail
          rcases HE7.out with e7 | e7
          · rw [e7] at D2
            dsimp only at D2
            clear e7 HE7
            refine (D2 _ hz11).mono ?_
            rintro e w12 ⟨rfl, hz12⟩
            go_wp2_with fail
            refine (K1 _ hz12).mono ?_
            rintro e w13 ⟨rfl, hz13⟩
            go_wp2_with fail
            refine (W7 _ hz13).mono ?_
            rintro e w14 ⟨rfl, hz14⟩
            go_wp2_with fail
            refine (K7 _ hz14).mono ?_
            rintro e w15 ⟨rfl, hz15⟩
            go_wp2_with fail
            go_ret
            exact ⟨by simp, hz15⟩
          · rw [e7] at D2
            dsimp only at D2
            clear e7 HE7
            refine (D2 _ hz11).mono ?_
            rintro e w12 ⟨rfl, hz12⟩
            go_wp2_with fail
            refine (K1 _ hz12).mono ?_
            rintro e w13 ⟨rfl, hz13⟩
            go_wp2_with fail
            go_ret
            exact ⟨by simp, hz13⟩
        · rw [e5] at D1
          dsimp only at D1
          clear e5 HE5
          refine (D1 _ hz10).mono ?_
          rintro e w11 ⟨rfl, hz11⟩
          go_wp2_with fail
          rcases HE7.out with e7 | e7
          · rw [e7] at D2
            dsimp only at D2
            clear e7 HE7
            refine (D2 _ hz11).mono ?_
            rintro e w12 ⟨rfl, hz12⟩
            go_wp2_with fail
            refine (W7 _ hz12).mono ?_
            rintro e w13 ⟨rfl, hz13⟩
            go_wp2_with fail
            refine (K7 _ hz13).mono ?_
            rintro e w14 ⟨rfl, hz14⟩
            go_wp2_with fail
            go_ret
            exact ⟨by simp, hz14⟩
          · rw [e7] at D2
            dsimp only at D2
            clear e7 HE7
            refine (D2 _ hz11).mono ?_
            rintro e w12 ⟨rfl, hz12⟩
            go_wp2_with fail
            go_ret
            exact ⟨by simp, hz12⟩
      · clear Hap
        go_wp2_with fail
        refine (W0 _ hz8).mono ?_
        rintro e w9 ⟨rfl, hz9⟩
        go_wp2_with fail
        refine (K0 _ hz9).mono ?_
        rintro e w10 ⟨rfl, hz10⟩
        go_wp2_with fail
        rcases HE5.out with e5 | e5
        · rw [e5] at D1
          dsimp only at D1
          clear e5 HE5
          refine (D1 _ hz10).mono ?_
          rintro e w11 ⟨rfl, hz11⟩
          go_wp2_with fail
          rcases HE7.out with e7 | e7
          · rw [e7] at D2
            dsimp only at D2
            clear e7 HE7
            refine (D2 _ hz11).mono ?_
            rintro e w12 ⟨rfl, hz12⟩
            go_wp2_with fail
            refine (K1 _ hz12).mono ?_
            rintro e w13 ⟨rfl, hz13⟩
            go_wp2_with fail
            refine (W7 _ hz13).mono ?_
            rintro e w14 ⟨rfl, hz14⟩
            go_wp2_with fail
            refine (K7 _ hz14).mono ?_
            rintro e w15 ⟨rfl, hz15⟩
            go_wp2_with fail
            go_ret
            exact ⟨by simp, hz15⟩
          · rw [e7] at D2
            dsimp only at D2
            clear e7 HE7
            refine (D2 _ hz11).mono ?_
            rintro e w12 ⟨rfl, hz12⟩
            go_wp2_with fail
            refine (K1 _ hz12).mono ?_
            rintro e w13 ⟨rfl, hz13⟩
            go_wp2_with fail
            go_ret
            exact ⟨by simp, hz13⟩
        · rw [e5] at D1
          dsimp only at D1
          clear e5 HE5
          refine (D1 _ hz10).mono ?_
          rintro e w11 ⟨rfl, hz11⟩
          go_wp2_with fail
          rcases HE7.out with e7 | e7
          · rw [e7] at D2
            dsimp only at D2
            clear e7 HE7
            refine (D2 _ hz11).mono ?_
            rintro e w12 ⟨rfl, hz12⟩
            go_wp2_with fail
            refine (W7 _ hz12).mono ?_
            rintro e w13 ⟨rfl, hz13⟩
            go_wp2_with fail
            refine (K7 _ hz13).mono ?_
            rintro e w14 ⟨rfl, hz14⟩
            go_wp2_with fail
            go_ret
            exact ⟨by simp, hz14⟩
          · rw [e7] at D2
            dsimp only at D2
            clear e7 HE7
            refine (D2 _ hz11).mono ?_
            rintro e w12 ⟨rfl, hz12⟩
            go_wp2_with fail
            go_ret
            exact ⟨by simp, hz12⟩
      · subst ha
        clear Hap
        go_wp2_with fail
        refine (W0 _ hz8).mono ?_
        rintro e w9 ⟨rfl, hz9⟩
        go_wp2_with fail
        refine (K0 _ hz9).mono ?_
        rintro e w10 ⟨rfl, hz10⟩
        go_wp2_with fail
        rcases HE5.out with e5 | e5
        · rw [e5] at D1
          dsimp only at D1
          clear e5 HE5
          refine (D1 _ hz10).mono ?_
          rintro e w11 ⟨rfl, hz11⟩
          go_wp2_with fail
          rcases HE7.out with e7 | e7
          · rw [e7] at D2
            dsimp only at D2
            clear e7 HE7
            refine (D2 _ hz11).mono ?_
            rintro e w12 ⟨rfl, hz12⟩
            go_wp2_with fail
            refine (K1 _ hz12).mono ?_
            rintro e w13 ⟨rfl, hz13⟩
            go_wp2_with fail
            refine (W7 _ hz13).mono ?_
            rintro e w14 ⟨rfl, hz14⟩
            go_wp2_with fail
            refine (K7 _ hz14).mono ?_
            rintro e w15 ⟨rfl, hz15⟩
            go_wp2_with fail
            go_ret
            exact ⟨by simp, hz15⟩
          · rw [e7] at D2
            dsimp only at D2
            clear e7 HE7
            refine (D2 _ hz11).mono ?_
            rintro e w12 ⟨rfl, hz12⟩
            go_wp2_with fail
            refine (K1 _ hz12).mono ?_
            rintro e w13 ⟨rfl, hz13⟩
            go_wp2_with fail
            go_ret
            exact ⟨by simp, hz13⟩
        · rw [e5] at D1
          dsimp only at D1
          clear e5 HE5
          refine (D1 _ hz10).mono ?_
          rintro e w11 ⟨rfl, hz11⟩
          go_wp2_with fail
          rcases HE7.out with e7 | e7
          · rw [e7] at D2
            dsimp only at D2
            clear e7 HE7
            refine (D2 _ hz11).mono ?_
            rintro e w12 ⟨rfl, hz12⟩
            go_wp2_with fail
            refine (W7 _ hz12).mono ?_
            rintro e w13 ⟨rfl, hz13⟩
            go_wp2_with fail
            refine (K7 _ hz13).mono ?_
            rintro e w14 ⟨rfl, hz14⟩
            go_wp2_with fail
            go_ret
            exact ⟨by simp, hz14⟩
          · rw [e7] at D2
            dsimp only at D2
            clear e7 HE7
            refine (D2 _ hz11).mono ?_
            rintro e w12 ⟨rfl, hz12⟩
            go_wp2_with fail
            go_ret
            exact ⟨by simp, hz12⟩
    · clear hp TN
      go_wp2_with fail
      refine (D0 _ hz2).mono ?_
      rintro e w3 ⟨rfl, hz3⟩
      go_wp2_with fail
      refine (TT _ hz3).mono ?_
      rintro e w4 ⟨rfl, hz4⟩
      go_wp2_with fail
      refine (PT _ hz4).mono ?_
      rintro e w5 ⟨m, g, rfl, hp, hz5⟩
      obtain ⟨rfl, rfl⟩ : t = m ∧ 0 = g := by have hq := hp.alike HPE.out; exact ⟨hq.1.symm, hq.2.symm⟩
      clear HPE hp
      go_wp2_with fail
      refine (B0 _ hz5).mono ?_
      rintro e w6 ⟨rfl, hz6⟩
      go_wp2_with fail
      refine (B1 _ hz6).mono ?_
      rintro e w7 ⟨rfl, hz7⟩
      clear D0 TT PT B0 B1
      obtain ha | ⟨g3, ha⟩ | ⟨g3, g4, ha⟩ : ¬ oa ≤ t ∨ (oa ≤ t ∧ ¬ t < ob) ∨ (oa ≤ t ∧ t < ob ∧ other = d) := by have := Hap.out; omega
      · clear Hap
        go_wp2_with fail
        refine (W0 _ hz7).mono ?_
        rintro e w8 ⟨rfl, hz8⟩
        go_wp2_with fail
        refine (K0 _ hz8).mono ?_
        rintro e w9 ⟨rfl, hz9⟩
        go_wp2_with fail
        rcases HE5.out with e5 | e5
        · rw [e5] at D1
          dsimp only at D1
          clear e5 HE5
          refine (D1 _ hz9).mono ?_
          rintro e w10 ⟨rfl, hz10⟩
          go_wp2_with fail
          rcases HE7.out with e7 | e7
          · rw [e7] at D2
            dsimp only at D2
            clear e7 HE7
            refine (D2 _ hz10).mono ?_
            rintro e w11 ⟨rfl, hz11⟩
            go_wp2_with fail
            refine (K1 _ hz11).mono ?_
            rintro e w12 ⟨rfl, hz12⟩
            go_wp2_with fail
            refine (W7 _ hz12).mono ?_
            rintro e w13 ⟨rfl, hz13⟩
            go_wp2_with fail
            refine (K7 _ hz13).mono ?_
            rintro e w14 ⟨rfl, hz14⟩
            go_wp2_with fail
            go_ret
            exact ⟨by simp, hz14⟩
          · rw [e7] at D2
            dsimp only at D2
            clear e7 HE7
            refine (D2 _ hz10).mono ?_
            rintro e w11 ⟨rfl, hz11⟩
            go_wp2_with fail
            refine (K1 _ hz11).mono ?_
            rintro e w12 ⟨rfl, hz12⟩
            go_wp2_with fail
            go_ret
            exact ⟨by simp, hz12⟩
        · rw [e5] at D1
          dsimp only at D1
          clear e5 HE5
          refine (D1 _ hz9).mono ?_
          rintro e w10 ⟨rfl, hz10⟩
          go_wp2_with fail
          rcases HE7.out with e7 | e7
          · rw [e7] at D2
            dsimp only at D2
            clear e7 HE7
            refine (D2 _ hz10).mono ?_
            rintro e w11 ⟨rfl, hz11⟩
            go_wp2_with fail
            refine (W7 _ hz11).mono ?_
            rintro e w12 ⟨rfl, hz12⟩
            go_wp2_with fail
            refine (K7 _ hz12).mono ?_
            rintro e w13 ⟨rfl, hz13⟩
            go_wp2_with fail
            go_ret
            exact ⟨by simp, hz13⟩
          · rw [e7] at D2
            dsimp only at D2
            clear e7 HE7
            refine (D2 _ hz10).mono ?_
            rintro e w11 ⟨rfl, hz11⟩
            go_wp2_with fail
            go_ret
            exact ⟨by simp, hz11⟩
      · clear Hap
        go_wp2_with fail
        refine (W0 _ hz7).mono ?_
        rintro e w8 ⟨rfl, hz8⟩
        go_wp2_with fail
        refine (K0 _ hz8).mono ?_
        rintro e w9 ⟨rfl, hz9⟩
        go_wp2_with fail
        rcases HE5.out with e5 | e5
        · rw [e5] at D1
          dsimp only at D1
          clear e5 HE5
          refine (D1 _ hz9).mono ?_
          rintro e w10 ⟨rfl, hz10⟩
          go_wp2_with fail
          rcases HE7.out with e7 | e7
          · rw [e7] at D2
            dsimp only at D2
            clear e7 HE7
            refine (D2 _ hz10).mono ?_
            rintro e w11 ⟨rfl, hz11⟩
            go_wp2_with fail
            refine (K1 _ hz11).mono ?_
            rintro e w12 ⟨rfl, hz12⟩
            go_wp2_with fail
            refine (W7 _ hz12).mono ?_
            rintro e w13 ⟨rfl, hz13⟩
            go_wp2_with fail
            refine (K7 _ hz13).mono ?_
            rintro e w14 ⟨rfl, hz14⟩
            go_wp2_with fail
            go_ret
            exact ⟨by simp, hz14⟩
          · rw [e7] at D2
            dsimp only at D2
            clear e7 HE7
            refine (D2 _ hz10).mono ?_
            rintro e w11 ⟨rfl, hz11⟩
            go_wp2_with fail
            refine (K1 _ hz11).mono ?_
            rintro e w12 ⟨rfl, hz12⟩
            go_wp2_with fail
            go_ret
            exact ⟨by simp, hz12⟩
        · rw [e5] at D1
          dsimp only at D1
          clear e5 HE5
          refine (D1 _ hz9).mono ?_
          rintro e w10 ⟨rfl, hz10⟩
          go_wp2_with fail
          rcases HE7.out with e7 | e7
          · rw [e7] at D2
            dsimp only at D2
            clear e7 HE7
            refine (D2 _ hz10).mono ?_
            rintro e w11 ⟨rfl, hz11⟩
            go_wp2_with fail
            refine (W7 _ hz11).mono ?_
            rintro e w12 ⟨rfl, hz12⟩
            go_wp2_with fail
            refine (K7 _ hz12).mono ?_
            rintro e w13 ⟨rfl, hz13⟩
            go_wp2_with fail
            go_ret
            exact ⟨by simp, hz13⟩
          · rw [e7] at D2
            dsimp only at D2
            clear e7 HE7
            refine (D2 _ hz10).mono ?_
            rintro e w11 ⟨rfl, hz11⟩
            go_wp2_with fail
            go_ret
            exact ⟨by simp, hz11⟩
      · subst ha
        clear Hap
        go_wp2_with fail
        refine (W0 _ hz7).mono ?_
        rintro e w8 ⟨rfl, hz8⟩
        go_wp2_with fail
        refine (K0 _ hz8).mono ?_
        rintro e w9 ⟨rfl, hz9⟩
        go_wp2_with fail
        rcases HE5.out with e5 | e5
        · rw [e5] at D1
          dsimp only at D1
          clear e5 HE5
          refine (D1 _ hz9).mono ?_
          rintro e w10 ⟨rfl, hz10⟩
          go_wp2_with fail
          rcases HE7.out with e7 | e7
          · rw [e7] at D2
            dsimp only at D2
            clear e7 HE7
            refine (D2 _ hz10).mono ?_
            rintro e w11 ⟨rfl, hz11⟩
            go_wp2_with fail
            refine (K1 _ hz11).mono ?_
            rintro e w12 ⟨rfl, hz12⟩
            go_wp2_with fail
            refine (W7 _ hz12).mono ?_
            rintro e w13 ⟨rfl, hz13⟩
            go_wp2_with fail
            refine (K7 _ hz13).mono ?_
            rintro e w14 ⟨rfl, hz14⟩
            go_wp2_with fail
            go_ret
            exact ⟨by simp, hz14⟩
          · rw [e7] at D2
            dsimp only at D2
            clear e7 HE7
            refine (D2 _ hz10).mono ?_
            rintro e w11 ⟨rfl, hz11⟩
            go_wp2_with fail
            refine (K1 _ hz11).mono ?_
            rintro e w12 ⟨rfl, hz12⟩
            go_wp2_with fail
            go_ret
            exact ⟨by simp, hz12⟩
        · rw [e5] at D1
          dsimp only at D1
          clear e5 HE5
          refine (D1 _ hz9).mono ?_
          rintro e w10 ⟨rfl, hz10⟩
          go_wp2_with fail
          rcases HE7.out with e7 | e7
          · rw [e7] at D2
            dsimp only at D2
            clear e7 HE7
            refine (D2 _ hz10).mono ?_
            rintro e w11 ⟨rfl, hz11⟩
            go_wp2_with fail
            refine (W7 _ hz11).mono ?_
            rintro e w12 ⟨rfl, hz12⟩
            go_wp2_with fail
            refine (K7 _ hz12).mono ?_
            rintro e w13 ⟨rfl, hz13⟩
            go_wp2_with fail
            go_ret
            exact ⟨by simp, hz13⟩
          · rw [e7] at D2
            dsimp only at D2
            clear e7 HE7
            refine (D2 _ hz10).mono ?_
            rintro e w11 ⟨rfl, hz11⟩
            go_wp2_with fail
            go_ret
            exact ⟨by simp, hz11⟩
  · have e1 : dayS t = (0, 60) := if_neg ht
    have e2 : rightS t = false := decide_eq_false ht
    have e3 : textI t = ⟨#[]⟩ := if_neg ht
    have D0 := fun w h => day_k z w h t
    have R0 := fun w h => right_k z w h t
    have TT := fun w h => T t w h
    rw [e1] at D0
    rw [e2] at R0
    rw [e3] at TT
    dsimp only at D0
    clear e1 e2 e3 P ht
    go_enter Tryd.func5, Tryd.ntmps5
    go_wp2_with fail
    refine (A _ hz).mono ?_
    rintro e w1 ⟨rfl, hz1⟩
    clear A
    go_wp2_with fail
    refine (PS _ hz1).mono ?_
    rintro e w2 ⟨n, x, rfl, hp, hz2⟩
    have TN := fun w h => T n w h
    clear T PS hs
    rcases hp with ⟨rfl, hn0, hn1, hns⟩ | ⟨rfl, rfl, hp⟩
    · rw [hns] at TN
      clear hn0 hn1 hns
      go_wp2_with fail
      refine (TN _ hz2).mono ?_
      rintro e w3 ⟨rfl, hz3⟩
      go_wp2_with fail
      refine (D0 _ hz3).mono ?_
      rintro e w4 ⟨rfl, hz4⟩
      go_wp2_with fail
      refine (R0 _ hz4).mono ?_
      rintro e w5 ⟨rfl, hz5⟩
      go_wp2_with fail
      refine (TT _ hz5).mono ?_
      rintro e w6 ⟨rfl, hz6⟩
      go_wp2_with fail
      go_ret
      exact ⟨by simp, hz6⟩
    · clear hp TN
      go_wp2_with fail
      refine (D0 _ hz2).mono ?_
      rintro e w3 ⟨rfl, hz3⟩
      go_wp2_with fail
      refine (R0 _ hz3).mono ?_
      rintro e w4 ⟨rfl, hz4⟩
      go_wp2_with fail
      refine (TT _ hz4).mono ?_
      rintro e w5 ⟨rfl, hz5⟩
      go_wp2_with fail
      go_ret
      exact ⟨by simp, hz5⟩
end Go.Proofs.YtgcdldbfikodaaaDoor.Hand
