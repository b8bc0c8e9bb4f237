/- MoneyRates, walked. -/
import Derived.Test.YtdioaclegmalpaaDoorPureQ
import Derived.Test.YtdioaclegmalpaaDoorHandI
namespace Go.Proofs.YtdioaclegmalpaaDoor.Hand
open Go.RowKit Go.Sort Go.Lib Go.Proofs.YtdioaclegmalpaaDoorW.PrintWords Go.Proofs.YtdioaclegmalpaaDoor.XA

set_option maxHeartbeats 8000000 in
set_option maxRecDepth 20000 in
theorem rates_any (n : Int) (hn : -9223372036854775808 ≤ n ∧ n ≤ 9223372036854775807) (m : Int) (hm : -9223372036854775808 ≤ m ∧ m ≤ 9223372036854775807) (f : Nat) (hf : f < 18446744073709551616) (g : Nat) (hg : g < 18446744073709551616) (w : World) (L : Laid w) : Calls Tryd.prog 4 #[.int .i64 n, .int .i64 m, .float .f64 f, .float .f64 g] w fun e w' => e = .returned (.bool true) ∧ Kept w w' := by
  obtain ⟨z, hzw⟩ : ∃ z, z = w := ⟨_, rfl⟩
  have hz : Kept z w := by rw [hzw]; exact Kept.refl _
  suffices H : Calls Tryd.prog 4 #[.int .i64 n, .int .i64 m, .float .f64 f, .float .f64 g] w fun e w' => e = .returned (.bool true) ∧ Kept z w' by rw [hzw] at H; exact H
  rw [← hzw] at L
  clear hzw
  have A := fun w h => awake_any z L w h
  have S : ∀ (x : Int) (b : Nat), b < 18446744073709551616 → ∀ w, Kept z w → Calls Tryd.prog 14 #[.int .i64 x, .float .f64 b] w fun e w' => e = .returned (.tuple #[.int .i64 (scaleS x b).1, .int .i64 (scaleS x b).2]) ∧ Kept z w' := fun x b hb w h => (scale_any x b hb w).mono fun _ _ ⟨he, hd⟩ => ⟨he, h.then hd⟩
  have S1 := S n f hf
  have S2 := S m f hf
  have S3 := S n g hg
  have S4 := S n 4607182418800017408 (by decide)
  have S5 := S n 0 (by decide)
  have S6 := S (n + m) f hf
  by_cases he : (scaleS n f).2 = 0
  · obtain ⟨P1, P2, P3, P4, P5, P6, P7⟩ := rates_plain (m := m) (g := g) he
    obtain ⟨n0, n1, _⟩ := scaleS_ok he
    rw [P3] at S4
    rw [P4] at S5
    dsimp only at S4 S5
    rw [he] at S1
    generalize (scaleS n f).1 = a at S1 P1 P2 P5 P6 P7
    generalize (scaleS m f).1 = b at S2 P5 P7
    generalize (scaleS m f).2 = h at S2 P5 P7
    generalize (scaleS n g).1 = c at S3 P6
    generalize (scaleS n g).2 = i at S3 P6
    generalize (scaleS (n + m) f).1 = d at S6 P7
    generalize (scaleS (n + m) f).2 = l at S6 P7
    obtain ⟨q, hq⟩ : ∃ q, q = (Ieee.double.order f g == some .lt || Ieee.double.order f g == some .eq) := ⟨_, rfl⟩
    have hq' : (FloatKind.f64.format.order f g == some .lt || FloatKind.f64.format.order f g == some .eq) = q := hq.symm
    rw [← hq] at P6
    have K5 := Lib.hid P5
    have K6 := Lib.hid P6
    have K7 := Lib.hid P7
    clear hq P3 P4 P5 P6 P7 L S hf hg he
    go_enter Tryd.func4, Tryd.ntmps4
    go_wp2_with fail
    refine (A _ hz).mono ?_
    rintro e w1 ⟨rfl, hz1⟩
    go_wp2_with fail
    refine (S1 _ hz1).mono ?_
    rintro e w2 ⟨rfl, hz2⟩
    go_wp2_with fail
    refine (S2 _ hz2).mono ?_
    rintro e w3 ⟨rfl, hz3⟩
    go_wp2_with fail
    refine (S3 _ hz3).mono ?_
    rintro e w4 ⟨rfl, hz4⟩
    go_wp2_with fail
    refine (S4 _ hz4).mono ?_
    rintro e w5 ⟨rfl, hz5⟩
    go_wp2_with fail
    refine (S5 _ hz5).mono ?_
    rintro e w6 ⟨rfl, hz6⟩
    clear A S1 S2 S3 S4 S5 hz hz1 hz2 hz3 hz4 hz5
    by_cases hh : h = 0
    · subst hh
      by_cases hle : n ≤ m
      · have k5 := K5.out rfl hle
        clear K5
        by_cases hi : i = 0
        · subst hi
          cases q
          · clear K6
            obtain ⟨m0, m1, b0, b1, hb⟩ := K7.out rfl
            obtain ⟨mm, hmm⟩ : ∃ mm, mm = 9007199254740992 - m := ⟨_, rfl⟩
            have p1 : IntKind.i64.wrap (9007199254740992 - m) = mm := by rw [IntKind.wrap_i64]; omega
            by_cases hs : mm < n
            · clear K7 hb hmm m0 m1 b0 b1
              go_wp2_with fail
              go_ret
              exact ⟨by simp, hz6⟩
            · obtain ⟨rfl, d0, d1⟩ := hb (by omega)
              obtain ⟨nm, hnm⟩ : ∃ nm, nm = n + m := ⟨_, rfl⟩
              have p2 : IntKind.i64.wrap (n + m) = nm := by rw [IntKind.wrap_i64]; omega
              rw [← hnm] at S6
              obtain ⟨ab, hab⟩ : ∃ ab, ab = a + b := ⟨_, rfl⟩
              obtain ⟨ab0, hab0⟩ : ∃ ab0, ab0 = ab - 1 := ⟨_, rfl⟩
              obtain ⟨ab1, hab1⟩ : ∃ ab1, ab1 = ab + 1 := ⟨_, rfl⟩
              have p3 : IntKind.i64.wrap (a + b) = ab := by rw [IntKind.wrap_i64]; omega
              have p4 : IntKind.i64.wrap (ab - 1) = ab0 := by rw [IntKind.wrap_i64]; omega
              have p5 : IntKind.i64.wrap (ab + 1) = ab1 := by rw [IntKind.wrap_i64]; omega
              have y0 : ab0 ≤ d := by omega
              have y1 : d ≤ ab1 := by omega
              clear K7 hb hmm hnm hab hab0 hab1 m0 m1 b0 b1 d0 d1
              go_wp2_with fail
              refine (S6 _ hz6).mono ?_
              rintro e w7 ⟨rfl, hz7⟩
              go_wp2_with fail
              go_ret
              exact ⟨by simp, hz7⟩
          · have k6 := K6.out rfl rfl
            clear K6
            obtain ⟨m0, m1, b0, b1, hb⟩ := K7.out rfl
            obtain ⟨mm, hmm⟩ : ∃ mm, mm = 9007199254740992 - m := ⟨_, rfl⟩
            have p1 : IntKind.i64.wrap (9007199254740992 - m) = mm := by rw [IntKind.wrap_i64]; omega
            by_cases hs : mm < n
            · clear K7 hb hmm m0 m1 b0 b1
              go_wp2_with fail
              go_ret
              exact ⟨by simp, hz6⟩
            · obtain ⟨rfl, d0, d1⟩ := hb (by omega)
              obtain ⟨nm, hnm⟩ : ∃ nm, nm = n + m := ⟨_, rfl⟩
              have p2 : IntKind.i64.wrap (n + m) = nm := by rw [IntKind.wrap_i64]; omega
              rw [← hnm] at S6
              obtain ⟨ab, hab⟩ : ∃ ab, ab = a + b := ⟨_, rfl⟩
              obtain ⟨ab0, hab0⟩ : ∃ ab0, ab0 = ab - 1 := ⟨_, rfl⟩
              obtain ⟨ab1, hab1⟩ : ∃ ab1, ab1 = ab + 1 := ⟨_, rfl⟩
              have p3 : IntKind.i64.wrap (a + b) = ab := by rw [IntKind.wrap_i64]; omega
              have p4 : IntKind.i64.wrap (ab - 1) = ab0 := by rw [IntKind.wrap_i64]; omega
              have p5 : IntKind.i64.wrap (ab + 1) = ab1 := by rw [IntKind.wrap_i64]; omega
              have y0 : ab0 ≤ d := by omega
              have y1 : d ≤ ab1 := by omega
              clear K7 hb hmm hnm hab hab0 hab1 m0 m1 b0 b1 d0 d1
              go_wp2_with fail
              refine (S6 _ hz6).mono ?_
              rintro e w7 ⟨rfl, hz7⟩
              go_wp2_with fail
              go_ret
              exact ⟨by simp, hz7⟩
        · clear K6
          obtain ⟨m0, m1, b0, b1, hb⟩ := K7.out rfl
          obtain ⟨mm, hmm⟩ : ∃ mm, mm = 9007199254740992 - m := ⟨_, rfl⟩
          have p1 : IntKind.i64.wrap (9007199254740992 - m) = mm := by rw [IntKind.wrap_i64]; omega
          by_cases hs : mm < n
          · clear K7 hb hmm m0 m1 b0 b1
            go_wp2_with fail
            go_ret
            exact ⟨by simp, hz6⟩
          · obtain ⟨rfl, d0, d1⟩ := hb (by omega)
            obtain ⟨nm, hnm⟩ : ∃ nm, nm = n + m := ⟨_, rfl⟩
            have p2 : IntKind.i64.wrap (n + m) = nm := by rw [IntKind.wrap_i64]; omega
            rw [← hnm] at S6
            obtain ⟨ab, hab⟩ : ∃ ab, ab = a + b := ⟨_, rfl⟩
            obtain ⟨ab0, hab0⟩ : ∃ ab0, ab0 = ab - 1 := ⟨_, rfl⟩
            obtain ⟨ab1, hab1⟩ : ∃ ab1, ab1 = ab + 1 := ⟨_, rfl⟩
            have p3 : IntKind.i64.wrap (a + b) = ab := by rw [IntKind.wrap_i64]; omega
            have p4 : IntKind.i64.wrap (ab - 1) = ab0 := by rw [IntKind.wrap_i64]; omega
            have p5 : IntKind.i64.wrap (ab + 1) = ab1 := by rw [IntKind.wrap_i64]; omega
            have y0 : ab0 ≤ d := by omega
            have y1 : d ≤ ab1 := by omega
            clear K7 hb hmm hnm hab hab0 hab1 m0 m1 b0 b1 d0 d1
            go_wp2_with fail
            refine (S6 _ hz6).mono ?_
            rintro e w7 ⟨rfl, hz7⟩
            go_wp2_with fail
            go_ret
            exact ⟨by simp, hz7⟩
      · clear K5
        by_cases hi : i = 0
        · subst hi
          cases q
          · clear K6
            obtain ⟨m0, m1, b0, b1, hb⟩ := K7.out rfl
            obtain ⟨mm, hmm⟩ : ∃ mm, mm = 9007199254740992 - m := ⟨_, rfl⟩
            have p1 : IntKind.i64.wrap (9007199254740992 - m) = mm := by rw [IntKind.wrap_i64]; omega
            by_cases hs : mm < n
            · clear K7 hb hmm m0 m1 b0 b1
              go_wp2_with fail
              go_ret
              exact ⟨by simp, hz6⟩
            · obtain ⟨rfl, d0, d1⟩ := hb (by omega)
              obtain ⟨nm, hnm⟩ : ∃ nm, nm = n + m := ⟨_, rfl⟩
              have p2 : IntKind.i64.wrap (n + m) = nm := by rw [IntKind.wrap_i64]; omega
              rw [← hnm] at S6
              obtain ⟨ab, hab⟩ : ∃ ab, ab = a + b := ⟨_, rfl⟩
              obtain ⟨ab0, hab0⟩ : ∃ ab0, ab0 = ab - 1 := ⟨_, rfl⟩
              obtain ⟨ab1, hab1⟩ : ∃ ab1, ab1 = ab + 1 := ⟨_, rfl⟩
              have p3 : IntKind.i64.wrap (a + b) = ab := by rw [IntKind.wrap_i64]; omega
              have p4 : IntKind.i64.wrap (ab - 1) = ab0 := by rw [IntKind.wrap_i64]; omega
              have p5 : IntKind.i64.wrap (ab + 1) = ab1 := by rw [IntKind.wrap_i64]; omega
              have y0 : ab0 ≤ d := by omega
              have y1 : d ≤ ab1 := by omega
              clear K7 hb hmm hnm hab hab0 hab1 m0 m1 b0 b1 d0 d1
              go_wp2_with fail
              refine (S6 _ hz6).mono ?_
              rintro e w7 ⟨rfl, hz7⟩
              go_wp2_with fail
              go_ret
              exact ⟨by simp, hz7⟩
          · have k6 := K6.out rfl rfl
            clear K6
            obtain ⟨m0, m1, b0, b1, hb⟩ := K7.out rfl
            obtain ⟨mm, hmm⟩ : ∃ mm, mm = 9007199254740992 - m := ⟨_, rfl⟩
            have p1 : IntKind.i64.wrap (9007199254740992 - m) = mm := by rw [IntKind.wrap_i64]; omega
            by_cases hs : mm < n
            · clear K7 hb hmm m0 m1 b0 b1
              go_wp2_with fail
              go_ret
              exact ⟨by simp, hz6⟩
            · obtain ⟨rfl, d0, d1⟩ := hb (by omega)
              obtain ⟨nm, hnm⟩ : ∃ nm, nm = n + m := ⟨_, rfl⟩
              have p2 : IntKind.i64.wrap (n + m) = nm := by rw [IntKind.wrap_i64]; omega
              rw [← hnm] at S6
              obtain ⟨ab, hab⟩ : ∃ ab, ab = a + b := ⟨_, rfl⟩
              obtain ⟨ab0, hab0⟩ : ∃ ab0, ab0 = ab - 1 := ⟨_, rfl⟩
              obtain ⟨ab1, hab1⟩ : ∃ ab1, ab1 = ab + 1 := ⟨_, rfl⟩
              have p3 : IntKind.i64.wrap (a + b) = ab := by rw [IntKind.wrap_i64]; omega
              have p4 : IntKind.i64.wrap (ab - 1) = ab0 := by rw [IntKind.wrap_i64]; omega
              have p5 : IntKind.i64.wrap (ab + 1) = ab1 := by rw [IntKind.wrap_i64]; omega
              have y0 : ab0 ≤ d := by omega
              have y1 : d ≤ ab1 := by omega
              clear K7 hb hmm hnm hab hab0 hab1 m0 m1 b0 b1 d0 d1
              go_wp2_with fail
              refine (S6 _ hz6).mono ?_
              rintro e w7 ⟨rfl, hz7⟩
              go_wp2_with fail
              go_ret
              exact ⟨by simp, hz7⟩
        · clear K6
          obtain ⟨m0, m1, b0, b1, hb⟩ := K7.out rfl
          obtain ⟨mm, hmm⟩ : ∃ mm, mm = 9007199254740992 - m := ⟨_, rfl⟩
          have p1 : IntKind.i64.wrap (9007199254740992 - m) = mm := by rw [IntKind.wrap_i64]; omega
          by_cases hs : mm < n
          · clear K7 hb hmm m0 m1 b0 b1
            go_wp2_with fail
            go_ret
            exact ⟨by simp, hz6⟩
          · obtain ⟨rfl, d0, d1⟩ := hb (by omega)
            obtain ⟨nm, hnm⟩ : ∃ nm, nm = n + m := ⟨_, rfl⟩
            have p2 : IntKind.i64.wrap (n + m) = nm := by rw [IntKind.wrap_i64]; omega
            rw [← hnm] at S6
            obtain ⟨ab, hab⟩ : ∃ ab, ab = a + b := ⟨_, rfl⟩
            obtain ⟨ab0, hab0⟩ : ∃ ab0, ab0 = ab - 1 := ⟨_, rfl⟩
            obtain ⟨ab1, hab1⟩ : ∃ ab1, ab1 = ab + 1 := ⟨_, rfl⟩
            have p3 : IntKind.i64.wrap (a + b) = ab := by rw [IntKind.wrap_i64]; omega
            have p4 : IntKind.i64.wrap (ab - 1) = ab0 := by rw [IntKind.wrap_i64]; omega
            have p5 : IntKind.i64.wrap (ab + 1) = ab1 := by rw [IntKind.wrap_i64]; omega
            have y0 : ab0 ≤ d := by omega
            have y1 : d ≤ ab1 := by omega
            clear K7 hb hmm hnm hab hab0 hab1 m0 m1 b0 b1 d0 d1
            go_wp2_with fail
            refine (S6 _ hz6).mono ?_
            rintro e w7 ⟨rfl, hz7⟩
            go_wp2_with fail
            go_ret
            exact ⟨by simp, hz7⟩
    · clear K5 K7
      by_cases hi : i = 0
      · subst hi
        cases q
        · clear K6
          go_wp2_with fail
          go_ret
          exact ⟨by simp, hz6⟩
        · have k6 := K6.out rfl rfl
          clear K6
          go_wp2_with fail
          go_ret
          exact ⟨by simp, hz6⟩
      · clear K6
        go_wp2_with fail
        go_ret
        exact ⟨by simp, hz6⟩
  · have ha := scaleS_err he
    rw [ha] at S1
    generalize (scaleS n f).2 = x at S1 he
    generalize (scaleS m f).1 = b at S2
    generalize (scaleS m f).2 = h at S2
    generalize (scaleS n g).1 = c at S3
    generalize (scaleS n g).2 = i at S3
    clear L S hf hg S4 S5 S6 hn hm ha
    go_enter Tryd.func4, Tryd.ntmps4
    go_wp2_with fail
    refine (A _ hz).mono ?_
    rintro e w1 ⟨rfl, hz1⟩
    go_wp2_with fail
    refine (S1 _ hz1).mono ?_
    rintro e w2 ⟨rfl, hz2⟩
    go_wp2_with fail
    refine (S2 _ hz2).mono ?_
    rintro e w3 ⟨rfl, hz3⟩
    go_wp2_with fail
    refine (S3 _ hz3).mono ?_
    rintro e w4 ⟨rfl, hz4⟩
    go_wp2_with fail
    go_ret
    exact ⟨by simp, hz4⟩
end Go.Proofs.YtdioaclegmalpaaDoor.Hand
