/- The document's Rate and Scale, walked; MoneyScales, walked. -/
import Derived.Test.YtdioaclegmalpaaDoorPureR
import Derived.Test.YtdioaclegmalpaaDoorHandI
namespace Go.Proofs.YtdioaclegmalpaaDoor.Hand
open Go.RowKit Go.Sort Go.Lib Go.Proofs.YtdioaclegmalpaaDoorW.PrintWords Go.Proofs.YtdioaclegmalpaaDoor.XA

set_option maxHeartbeats 4000000 in
set_option maxRecDepth 20000 in
theorem rrate_any (b : Nat) (hb : b < 18446744073709551616) (w : World) : Calls Tryd.prog 16 #[.float .f64 b] w fun e w' => e = .returned (.bool (rateS b)) ∧ w' = w := by
  have P := fun w => parts_any b hb w
  have hr := rate_parts hb
  obtain ⟨r, hR⟩ : ∃ r, r = rateS b := ⟨_, rfl⟩
  rw [← hR] at hr ⊢
  obtain ⟨W, hW⟩ : ∃ W : Int, W = (pW b : Nat) := ⟨_, rfl⟩
  have e1 : decide (pW b = 4503599627370496) = (W == 4503599627370496) := by
    by_cases h : pW b = 4503599627370496
    · rw [decide_eq_true h, hW, h]; rfl
    · rw [decide_eq_false h]; symm; rw [beq_eq_false_iff_ne]; omega
  have e2 : decide (pW b = 0) = (W == 0) := by
    by_cases h : pW b = 0
    · rw [decide_eq_true h, hW, h]; rfl
    · rw [decide_eq_false h]; symm; rw [beq_eq_false_iff_ne]; omega
  rw [e1, e2] at hr
  rw [← hW] at P
  obtain ⟨u1, hu1⟩ : ∃ u, u = (W == 4503599627370496) := ⟨_, rfl⟩
  obtain ⟨u2, hu2⟩ : ∃ u, u = (W == 0) := ⟨_, rfl⟩
  rw [← hu1, ← hu2] at hr
  have v1 := hu1.symm
  have v2 := hu2.symm
  generalize pO b = O at P hr
  generalize pM b = m at P hr
  generalize pP b = p at P hr
  clear hR hW hb e1 e2 hu1 hu2
  by_cases c1 : p < -52
  · rw [decide_eq_true c1, Bool.true_or, Bool.true_or, Bool.and_true] at hr
    cases O <;> cases m
    all_goals obtain rfl := hr
    all_goals go_enter Tryd.func16, Tryd.ntmps16
    all_goals go_wp2_with fail
    all_goals refine (P _).mono ?_
    all_goals rintro e w1 ⟨rfl, rfl⟩
    all_goals go_wp2_with fail
    all_goals go_ret
    all_goals exact ⟨rfl, rfl⟩
  · rw [decide_eq_false c1, Bool.false_or] at hr
    by_cases c2 : p = -52
    · rw [decide_eq_true c2, Bool.true_and] at hr
      have t1 : (p == -52) = true := by simpa using c2
      clear c2
      cases O <;> cases m <;> cases u1 <;> cases u2
      all_goals obtain rfl := hr
      all_goals go_enter Tryd.func16, Tryd.ntmps16
      all_goals go_wp2_with fail
      all_goals refine (P _).mono ?_
      all_goals rintro e w1 ⟨rfl, rfl⟩
      all_goals go_wp2_with fail
      all_goals go_ret
      all_goals exact ⟨by first | rfl | (simp; omega), rfl⟩
    · rw [decide_eq_false c2, Bool.false_and, Bool.false_or] at hr
      have t1 : (p == -52) = false := by simpa using c2
      clear c2
      cases O <;> cases m <;> cases u2
      all_goals obtain rfl := hr
      all_goals go_enter Tryd.func16, Tryd.ntmps16
      all_goals go_wp2_with fail
      all_goals refine (P _).mono ?_
      all_goals rintro e w1 ⟨rfl, rfl⟩
      all_goals go_wp2_with fail
      all_goals go_ret
      all_goals exact ⟨by first | rfl | (simp; omega), rfl⟩

set_option maxHeartbeats 4000000 in
set_option maxRecDepth 20000 in
theorem rscale_no (n : Int) (b : Nat) (hb : b < 18446744073709551616) (h : (n < 0 ∨ 9007199254740992 < n) ∨ 4607182418800017408 < b) (w : World) : Calls Tryd.prog 15 #[.int .i64 n, .float .f64 b] w fun e w' => e = .returned (.tuple #[.int .i64 (scaleS n b).1, .int .i64 (scaleS n b).2]) ∧ Kept w w' := by
  have Q := fun w => rright_k w w (Kept.refl w) n
  have R := fun w => rrate_any b hb w
  by_cases h0 : n < 0 ∨ 9007199254740992 < n
  · have e : scaleS n b = (0, 50) := if_pos h0
    rw [e]
    by_cases h1 : n < 0
    · have hq : rightS n = true ∨ rightS n = false := by cases rightS n <;> simp
      rcases hq with hq | hq
      all_goals rw [hq] at Q
      all_goals clear hq R e h h0 hb
      all_goals go_enter Tryd.func15, Tryd.ntmps15
      all_goals go_wp2_with fail
      all_goals refine (Q _).mono ?_
      all_goals rintro e w1 ⟨rfl, hz⟩
      all_goals go_wp2_with fail
      all_goals go_ret2
      all_goals exact ⟨rfl, hz⟩
    · have hq : rightS n = false := decide_eq_false (by omega)
      rw [hq] at Q
      clear hq R e h h0 hb
      go_enter Tryd.func15, Tryd.ntmps15
      go_wp2_with fail
      refine (Q _).mono ?_
      rintro e w1 ⟨rfl, hz⟩
      go_wp2_with fail
      go_ret2
      exact ⟨rfl, hz⟩
  · have h1 : 4607182418800017408 < b := by omega
    have e : scaleS n b = (0, 51) := by unfold scaleS; rw [if_neg h0, if_pos h1]
    rw [e]
    have hq : rightS n = true := decide_eq_true (by omega)
    have hr : rateS b = false := decide_eq_false (by omega)
    have hn : ¬ n < 0 := by omega
    rw [hq] at Q
    rw [hr] at R
    clear hq hr e h h0 hb h1
    go_enter Tryd.func15, Tryd.ntmps15
    go_wp2_with fail
    refine (Q _).mono ?_
    rintro e w1 ⟨rfl, hz⟩
    go_wp2_with fail
    refine (R _).mono ?_
    rintro e w2 ⟨rfl, rfl⟩
    go_wp2_with fail
    go_ret2
    exact ⟨rfl, hz⟩

set_option maxHeartbeats 8000000 in
set_option maxRecDepth 20000 in
theorem rscale_walk (n : Nat) (b : Nat) (hn : n ≤ 9007199254740992) (hb : b ≤ 4607182418800017408) (y : Nat) (hy : y ≤ 1074) (P : Nat) (hP : P < 340282366920938463463374607431768211456)
    (a0 a1 w0 w1 p00 p10 p01 s1 c1 M d0 d1 p11 c2 H2 d2 d3 WI : Int)
    (Q : ∀ w, Calls Tryd.prog 37 #[.float .f64 b] w fun e w' => e = .returned (.tuple #[.bool (pM b), .int .u64 WI, .int .i64 (-(y : Int)), .bool (pO b)]) ∧ w' = w)
    (m1 : (n : Int).tmod 4294967296 = a0) (m2 : WI.tmod 4294967296 = w0) (m3 : IntKind.u64.wrap (a0 * w0) = p00) (m4 : IntKind.u64.wrap ((n : Int).tdiv 4294967296) = a1) (m5 : IntKind.u64.wrap (WI.tdiv 4294967296) = w1)
    (m6 : IntKind.u64.wrap (a1 * w0) = p10) (m7 : IntKind.u64.wrap (w1 * a0) = p01) (m8 : IntKind.u64.wrap (p10 + p01) = s1) (m9 : IntKind.u64.wrap (p00.tdiv 4294967296) = c1) (mA : IntKind.u64.wrap (s1 + c1) = M)
    (mB : p00.tmod 4294967296 = d0) (mC : M.tmod 4294967296 = d1) (mD : IntKind.u64.wrap (a1 * w1) = p11) (mE : IntKind.u64.wrap (M.tdiv 4294967296) = c2) (mF : IntKind.u64.wrap (p11 + c2) = H2)
    (mG : IntKind.u64.wrap (H2.tdiv 4294967296) = d3) (mH : H2.tmod 4294967296 = d2)
    (hD : (#[.int .u64 d0, .int .u64 d1, .int .u64 d2, .int .u64 d3] : Array Value) = mixV P 0) (res : Int)
    (hres : ∀ x1 x0 h t1 t2 t3 : Int, x1 = (digN (P / 2 ^ y) 1 : Nat) → x0 = (digN (P / 2 ^ y) 0 : Nat) → h = (halfN P y : Nat) → IntKind.u64.wrap (x1 * 4294967296) = t1 → IntKind.u64.wrap (t1 + x0) = t2 → IntKind.u64.wrap (t2 + h) = t3 → IntKind.i64.wrap t3 = res)
    (w : World) : Calls Tryd.prog 15 #[.int .i64 n, .float .f64 b] w fun e w' => e = .returned (.tuple #[.int .i64 res, .int .i64 0]) ∧ Kept w w' := by
  have K := fun w => rright_k w w (Kept.refl w) n
  have hq : rightS n = true := decide_eq_true (by omega)
  have R := fun w => rrate_any b (by omega) w
  have hr : rateS b = true := decide_eq_true hb
  rw [hq] at K
  rw [hr] at R
  have hn0 : ¬ (n : Int) < 0 := by omega
  have hn1 : IntKind.u64.wrap (n : Int) = n := by rw [IntKind.wrap_u64]; omega
  generalize pM b = pm at Q
  generalize pO b = po at Q
  have HD := Lib.hid hD
  have HRES := Lib.hid hres
  have HP := Lib.hid hP
  clear hq hr hn hb hD hres hP
  generalize (n : Int) = nI at K m1 m4 hn0 hn1 ⊢
  obtain ⟨pI, hpI⟩ : ∃ pI : Int, pI = -(y : Int) := ⟨_, rfl⟩
  rw [← hpI] at Q
  have HPI := Lib.hid hpI
  clear hpI
  go_enter Tryd.func15, Tryd.ntmps15
  go_wp2_with fail
  refine (K _).mono ?_
  rintro e w2 ⟨rfl, hz⟩
  go_wp2_with fail
  refine (R _).mono ?_
  rintro e w3 ⟨rfl, rfl⟩
  go_wp2_with fail
  refine (Q _).mono ?_
  rintro e w3 ⟨rfl, rfl⟩
  clear K R Q
  go_wp2_with fail
  obtain ⟨g, hg⟩ : ∃ g, g = w3.heap.size := ⟨_, rfl⟩
  have hB : Blk (w3.alloc (.cells #[.int .u64 d0, .int .u64 d1, .int .u64 d2, .int .u64 d3] 39)) g 39 (mixV P 0) := by
    rw [← HD.out, hg]
    exact heap_alloc_new w3 _
  have hBel : Below g w3 (w3.alloc (.cells #[.int .u64 d0, .int .u64 d1, .int .u64 d2, .int .u64 d3] 39)) := by rw [hg]; exact (Below.refl _ _).alloc (Nat.le_refl _) _
  have HB := Lib.hid hB
  have HBel := Lib.hid hBel
  have HG := Lib.hid hg
  rw [← hg]
  generalize (w3.alloc (.cells #[.int .u64 d0, .int .u64 d1, .int .u64 d2, .int .u64 d3] 39)) = w4 at HB HBel ⊢
  clear hB hBel hg m1 m2 m3 m4 m5 m6 m7 m8 m9 mA mB mC mD mE mF mG mH HD hn0 hn1
  go_loopw [10, 16] (fun v10 v16 wr => ∃ r : Nat, v10 = .int .i64 (-(r : Int)) ∧ r ≤ y ∧ v16 = .int .u64 (halfN P (y - r) : Nat) ∧ Hid (Blk wr g 39 (mixV (P / 2 ^ (y - r)) 0)) ∧ Hid (Below g w3 wr)) (fun v10 _ _ => (-(RowKit.intOf v10)).toNat)
  case atStart => exact ⟨y, by rw [HPI.out], Nat.le_refl _, by rw [Nat.sub_self]; rfl, by rw [Nat.sub_self, Nat.pow_zero, Nat.div_one]; exact HB, HBel⟩
  case round =>
    obtain ⟨r, rfl, hr, rfl, hblk, hbel⟩ := hrel
    obtain ⟨X, hX⟩ : ∃ X, X = P / 2 ^ (y - r) := ⟨_, rfl⟩
    rw [← hX] at hblk
    obtain ⟨hv, hhv⟩ : ∃ hv : Int, hv = (halfN P (y - r) : Nat) := ⟨_, rfl⟩
    rw [← hhv]
    have HX := Lib.hid hX
    have HHV := Lib.hid hhv
    clear hX hhv
    obtain ⟨rI, hrI⟩ : ∃ rI : Int, rI = -(r : Int) := ⟨_, rfl⟩
    rw [← hrI]
    by_cases hr0 : rI < 0
    · have x0 : wr.cell? ⟨g, 0, none⟩ = some (.int .u64 (digN X 0 : Nat)) := (hblk.out.cell 0).trans (mix_at X 0 (by decide))
      obtain ⟨e0, he0⟩ : ∃ e : Int, e = (digN X 0 : Nat) := ⟨_, rfl⟩
      obtain ⟨h2, hh2⟩ : ∃ e : Int, e = (digN X 0 % 2 : Nat) := ⟨_, rfl⟩
      rw [← he0] at x0
      have q1 : e0.tmod 2 = h2 := by rw [Int.tmod_eq_emod_of_nonneg (by omega)]; omega
      have HRI := Lib.hid hrI
      have HE0 := Lib.hid he0
      have HH2 := Lib.hid hh2
      clear hrI he0 hh2
      go_wp2_with fail
      clear x0 q1
      go_loopw [17] (fun v17 wq => ∃ i : Nat, v17 = .int .i64 i ∧ i ≤ 4 ∧ Hid (Blk wq g 39 (mixV X i)) ∧ Hid (Below g w3 wq)) (fun v17 _ => 4 - (RowKit.intOf v17).toNat)
      case atStart => exact ⟨0, rfl, by omega, hblk, hbel⟩
      case round =>
        obtain ⟨i, rfl, hi, hblk2, hbel2⟩ := hrel
        by_cases hi4 : (i : Int) < 4
        · have hi4' : i < 4 := by omega
          obtain ⟨eI, heI⟩ : ∃ e : Int, e = (digN X i : Nat) := ⟨_, rfl⟩
          obtain ⟨hI, hhI⟩ : ∃ e : Int, e = (digN X i / 2 : Nat) := ⟨_, rfl⟩
          have bnd := dig_bound X i
          have z0 : wr.cell? ⟨g, i, none⟩ = some (.int .u64 eI) := (hblk2.out.cell i).trans (by rw [mix_at X i hi4', heI])
          have zf := hblk2.out.frozen i
          have k1 : IntKind.u64.wrap (eI.tdiv 2) = hI := by rw [IntKind.wrap_u64, Int.tdiv_eq_ediv_of_nonneg (by omega)]; omega
          have hw1 : IntKind.i64.wrap ((i : Int) + 1) = (i : Int) + 1 := by rw [IntKind.wrap_i64]; omega
          by_cases hi3 : (i : Int) < 3
          · have hi3' : i < 3 := by omega
            obtain ⟨fI, hfI⟩ : ∃ e : Int, e = (digN X (i + 1) : Nat) := ⟨_, rfl⟩
            obtain ⟨oI, hoI⟩ : ∃ e : Int, e = (digN X (i + 1) % 2 : Nat) := ⟨_, rfl⟩
            obtain ⟨ooI, hooI⟩ : ∃ e : Int, e = oI * 2147483648 := ⟨_, rfl⟩
            obtain ⟨vI, hvI⟩ : ∃ e : Int, e = (digN (X / 2) i : Nat) := ⟨_, rfl⟩
            have dh := dig_half X i hi3'
            have z1 : wr.cell? ⟨g, i + 1, none⟩ = some (.int .u64 fI) := (hblk2.out.cell (i + 1)).trans (by rw [mix_succ X i hi3', hfI])
            have k2 : fI.tmod 2 = oI := by rw [Int.tmod_eq_emod_of_nonneg (by omega)]; omega
            have k3 : IntKind.u64.wrap (oI * 2147483648) = ooI := by rw [IntKind.wrap_u64]; omega
            have k4 : IntKind.u64.wrap (hI + ooI) = vI := by rw [IntKind.wrap_u64]; omega
            have hset := Lib.hid (show Blk (wr.setCell ⟨g, i, none⟩ (.int .u64 vI)) g 39 (mixV X (i + 1)) by rw [← mix_set X i hi4', ← hvI]; exact hblk2.out.set i _)
            have hbb := Lib.hid (hbel2.out.setCell (p := ⟨g, i, none⟩) (Nat.le_refl _) (.int .u64 vI))
            clear heI hhI bnd hfI hoI hooI hvI dh hi3' hi4'
            go_wp2_with fail
            refine ⟨⟨i + 1, by congr 1, by omega, hset, hbb⟩, by simp [RowKit.intOf]; omega⟩
          · obtain rfl : i = 3 := by omega
            have hXl : X < 340282366920938463463374607431768211456 := by rw [HX.out]; exact Nat.lt_of_le_of_lt (Nat.div_le_self _ _) HP.out
            have dl := dig_last X hXl
            have k5 : IntKind.u64.wrap hI = hI := by rw [IntKind.wrap_u64]; omega
            have hset := Lib.hid (show Blk (wr.setCell ⟨g, 3, none⟩ (.int .u64 hI)) g 39 (mixV X (3 + 1)) by rw [← mix_set X 3 (by decide), dl, ← hhI]; exact hblk2.out.set 3 _)
            have hbb := Lib.hid (hbel2.out.setCell (p := ⟨g, 3, none⟩) (Nat.le_refl _) (.int .u64 hI))
            clear heI hhI bnd dl hXl hi3 hi4 hi4' hw1
            go_wp2_with fail
            refine ⟨⟨4, rfl, by omega, hset, hbb⟩, by simp [RowKit.intOf]⟩
        · obtain rfl : i = 4 := by omega
          obtain ⟨r1, hr1⟩ : ∃ r1 : Nat, r1 = r - 1 := ⟨_, rfl⟩
          have hrp : 0 < r := by have := HRI.out; omega
          have ej : y - r1 = (y - r) + 1 := by omega
          have kR : IntKind.i64.wrap (rI + 1) = -(r1 : Int) := by have := HRI.out; rw [IntKind.wrap_i64]; omega
          have eX : P / 2 ^ (y - r1) = X / 2 := by rw [ej, Nat.pow_succ, ← Nat.div_div_eq_div_mul, ← HX.out]
          have eH : h2 = (halfN P (y - r1) : Nat) := by
            rw [ej, HH2.out]
            show ((X % 4294967296 % 2 : Nat) : Int) = ((P / 2 ^ (y - r) % 2 : Nat) : Int)
            rw [← HX.out]
            omega
          have hb3 := Lib.hid (show Blk wr g 39 (mixV (P / 2 ^ (y - r1)) 0) by rw [eX]; exact hblk2.out)
          have EH := Lib.hid eH
          have hr1y : r1 ≤ y := by omega
          have hms := Lib.hid (show (-(-(r1 : Int))).toNat < (-rI).toNat by have := HRI.out; omega)
          clear eX eH ej hr1 hrp
          go_wp2_with fail
          exact ⟨⟨r1, rfl, hr1y, by rw [EH.out], hb3, hbel2⟩, hms.out⟩
    · obtain rfl : r = 0 := by omega
      rw [Nat.sub_zero] at HX HHV
      have x0 : wr.cell? ⟨g, 0, none⟩ = some (.int .u64 (digN X 0 : Nat)) := (hblk.out.cell 0).trans (mix_at X 0 (by decide))
      have x1 : wr.cell? ⟨g, 1, none⟩ = some (.int .u64 (digN X 1 : Nat)) := (hblk.out.cell 1).trans (mix_at X 1 (by decide))
      obtain ⟨e0, he0⟩ : ∃ e : Int, e = (digN X 0 : Nat) := ⟨_, rfl⟩
      obtain ⟨e1, he1⟩ : ∃ e : Int, e = (digN X 1 : Nat) := ⟨_, rfl⟩
      rw [← he0] at x0
      rw [← he1] at x1
      obtain ⟨t1, ht1⟩ : ∃ t, t = IntKind.u64.wrap (e1 * 4294967296) := ⟨_, rfl⟩
      obtain ⟨t2, ht2⟩ : ∃ t, t = IntKind.u64.wrap (t1 + e0) := ⟨_, rfl⟩
      obtain ⟨t3, ht3⟩ : ∃ t, t = IntKind.u64.wrap (t2 + hv) := ⟨_, rfl⟩
      have k1 := ht1.symm
      have k2 := ht2.symm
      have k3 := ht3.symm
      have k4 : IntKind.i64.wrap t3 = res := HRES.out e1 e0 hv t1 t2 t3 (by rw [he1, HX.out]) (by rw [he0, HX.out]) HHV.out k1 k2 k3
      have hfin := Lib.hid (show Kept w wr from hz.then (by rw [← HG.out]; exact hbel.out))
      have mx := mixed
      clear ht1 ht2 ht3 he0 he1 hrI
      go_wp2_with fail
      go_quiet (fail)
      have hz1 := hfin.out.drewN nq
      generalize wr.drewN nq = w5 at hz1 ⊢
      go_wp2_with fail
      go_ret2
      exact ⟨rfl, hz1⟩

theorem rscale_any (n : Int) (b : Nat) (hb : b < 18446744073709551616) (w : World) : Calls Tryd.prog 15 #[.int .i64 n, .float .f64 b] w fun e w' => e = .returned (.tuple #[.int .i64 (scaleS n b).1, .int .i64 (scaleS n b).2]) ∧ Kept w w' := by
  by_cases h : (n < 0 ∨ 9007199254740992 < n) ∨ 4607182418800017408 < b
  · exact rscale_no n b hb h w
  · have e := scaleS_at (n := n) (b := b) (by omega) (by omega) (by omega)
    rw [e]
    obtain ⟨m, rfl⟩ : ∃ m : Nat, n = m := ⟨n.toNat, by omega⟩
    rw [Int.toNat_natCast]
    have hm : m ≤ 9007199254740992 := by omega
    have hbo : b ≤ 4607182418800017408 := by omega
    obtain ⟨eW, eP, y0, y1⟩ := parts_rate hbo
    have hml := mant_lt b
    have hPl := prod_le m b hm
    have hle := scale_le (n := m) hbo
    have hsc : scaleN m b = m * mant b / 2 ^ byN b + m * mant b / 2 ^ (byN b - 1) % 2 := by
      unfold scaleN roundX
      obtain ⟨k, hk⟩ : ∃ k, byN b = k + 1 := ⟨byN b - 1, by omega⟩
      rw [hk, Nat.add_sub_cancel, Nat.pow_succ, ← Nat.div_div_eq_div_mul]
    have hhalf : halfN (m * mant b) (byN b) = m * mant b / 2 ^ (byN b - 1) % 2 := by
      obtain ⟨k, hk⟩ : ∃ k, byN b = k + 1 := ⟨byN b - 1, by omega⟩
      rw [hk]
      rfl
    obtain ⟨Q00, h00⟩ : ∃ q, q = m % 4294967296 * (mant b % 4294967296) := ⟨_, rfl⟩
    obtain ⟨Q10, h10⟩ : ∃ q, q = m / 4294967296 * (mant b % 4294967296) := ⟨_, rfl⟩
    obtain ⟨Q01, h01⟩ : ∃ q, q = mant b / 4294967296 * (m % 4294967296) := ⟨_, rfl⟩
    obtain ⟨Q11, h11⟩ : ∃ q, q = m / 4294967296 * (mant b / 4294967296) := ⟨_, rfl⟩
    have hmul := long_mul m (mant b) Q00 Q10 Q01 Q11 h00 h10 h01 h11
    have b00 : Q00 ≤ 4294967295 * 4294967295 := by rw [h00]; exact Nat.mul_le_mul (by omega) (by omega)
    have b10 : Q10 ≤ 2097152 * 4294967295 := by rw [h10]; exact Nat.mul_le_mul (by omega) (by omega)
    have b01 : Q01 ≤ 2097152 * 4294967295 := by rw [h01]; exact Nat.mul_le_mul (by omega) (by omega)
    have b11 : Q11 ≤ 2097152 * 2097152 := by rw [h11]; exact Nat.mul_le_mul (by omega) (by omega)
    have c00 : ((m % 4294967296 : Nat) : Int) * ((mant b % 4294967296 : Nat) : Int) = (Q00 : Int) := by rw [h00, Int.natCast_mul]
    have c10 : ((m / 4294967296 : Nat) : Int) * ((mant b % 4294967296 : Nat) : Int) = (Q10 : Int) := by rw [h10, Int.natCast_mul]
    have c01 : ((mant b / 4294967296 : Nat) : Int) * ((m % 4294967296 : Nat) : Int) = (Q01 : Int) := by rw [h01, Int.natCast_mul]
    have c11 : ((m / 4294967296 : Nat) : Int) * ((mant b / 4294967296 : Nat) : Int) = (Q11 : Int) := by rw [h11, Int.natCast_mul]
    obtain ⟨Pn, hPn⟩ : ∃ Pn, Pn = m * mant b := ⟨_, rfl⟩
    rw [← hPn] at hmul hPl hsc hhalf
    have z0 : digN Pn 0 = Q00 % 4294967296 := by show Pn % 4294967296 = _; omega
    have z1 : digN Pn 1 = (Q10 + Q01 + Q00 / 4294967296) % 4294967296 := by show Pn / 4294967296 % 4294967296 = _; omega
    have z2 : digN Pn 2 = (Q11 + (Q10 + Q01 + Q00 / 4294967296) / 4294967296) % 4294967296 := by show Pn / 18446744073709551616 % 4294967296 = _; omega
    have z3 : digN Pn 3 = (Q11 + (Q10 + Q01 + Q00 / 4294967296) / 4294967296) / 4294967296 := by show Pn / 79228162514264337593543950336 % 4294967296 = _; omega
    refine rscale_walk m b hm hbo (byN b) y1 Pn (Nat.lt_of_le_of_lt hPl (by decide)) (m % 4294967296 : Nat) (m / 4294967296 : Nat) (mant b % 4294967296 : Nat) (mant b / 4294967296 : Nat) (Q00 : Int) (Q10 : Int) (Q01 : Int) ((Q10 + Q01 : Nat) : Int) ((Q00 / 4294967296 : Nat) : Int) ((Q10 + Q01 + Q00 / 4294967296 : Nat) : Int) (digN Pn 0 : Nat) (digN Pn 1 : Nat) (Q11 : Int) (((Q10 + Q01 + Q00 / 4294967296) / 4294967296 : Nat) : Int) ((Q11 + (Q10 + Q01 + Q00 / 4294967296) / 4294967296 : Nat) : Int) (digN Pn 2 : Nat) (digN Pn 3 : Nat) (mant b : Nat) ?_ ?_ ?_ ?_ ?_ ?_ ?_ ?_ ?_ ?_ ?_ ?_ ?_ ?_ ?_ ?_ ?_ ?_ rfl _ ?_ w
    · intro w
      have := parts_any b hb w
      rw [eW, eP] at this
      exact this
    · rw [Int.tmod_eq_emod_of_nonneg (by omega)]; omega
    · rw [Int.tmod_eq_emod_of_nonneg (by omega)]; omega
    · rw [c00, IntKind.wrap_u64]; omega
    · rw [IntKind.wrap_u64, Int.tdiv_eq_ediv_of_nonneg (by omega)]; omega
    · rw [IntKind.wrap_u64, Int.tdiv_eq_ediv_of_nonneg (by omega)]; omega
    · rw [c10, IntKind.wrap_u64]; omega
    · rw [c01, IntKind.wrap_u64]; omega
    · rw [IntKind.wrap_u64]; omega
    · rw [IntKind.wrap_u64, Int.tdiv_eq_ediv_of_nonneg (by omega)]; omega
    · rw [IntKind.wrap_u64]; omega
    · rw [Int.tmod_eq_emod_of_nonneg (by omega), z0]; omega
    · rw [Int.tmod_eq_emod_of_nonneg (by omega), z1]; omega
    · rw [c11, IntKind.wrap_u64]; omega
    · rw [IntKind.wrap_u64, Int.tdiv_eq_ediv_of_nonneg (by omega)]; omega
    · rw [IntKind.wrap_u64]; omega
    · rw [IntKind.wrap_u64, Int.tdiv_eq_ediv_of_nonneg (by omega), z3]; omega
    · rw [Int.tmod_eq_emod_of_nonneg (by omega), z2]; omega
    · intro x1 x0 hh t1 t2 t3 e1 e0 eh k1 k2 k3
      rw [hhalf] at eh
      obtain ⟨X, hX⟩ : ∃ X, X = Pn / 2 ^ byN b := ⟨_, rfl⟩
      rw [← hX] at hsc e1 e0
      have hh2 : Pn / 2 ^ (byN b - 1) % 2 < 2 := Nat.mod_lt _ (by decide)
      generalize Pn / 2 ^ (byN b - 1) % 2 = q at hsc eh hh2
      have dr := dig_result X (by omega)
      rw [← k3, ← k2, ← k1, IntKind.wrap_i64, IntKind.wrap_u64, IntKind.wrap_u64, IntKind.wrap_u64]
      omega

set_option maxHeartbeats 2000000 in
set_option maxRecDepth 20000 in
theorem scales_any (n : Int) (_hn : -9223372036854775808 ≤ n ∧ n ≤ 9223372036854775807) (f : Nat) (hf : f < 18446744073709551616) (w : World) (L : Laid w) : Calls Tryd.prog 3 #[.int .i64 n, .float .f64 f] w fun e w' => e = .returned (.bool true) ∧ Kept w w' := by
  have A := awake_any w L w (Kept.refl w)
  have R := fun w => rate_any f w hf
  have RR := fun w => rrate_any f hf w
  have S := fun w => scale_any n f hf w
  have RS := fun w => rscale_any n f hf w
  generalize rateS f = r at R RR
  generalize (scaleS n f).1 = v1 at S RS
  generalize (scaleS n f).2 = v2 at S RS
  clear L hf
  go_enter Tryd.func3, Tryd.ntmps3
  go_wp2_with fail
  refine A.mono ?_
  rintro e w1 ⟨rfl, hz1⟩
  go_wp2_with fail
  refine (R _).mono ?_
  rintro e w2 ⟨rfl, rfl⟩
  go_wp2_with fail
  refine (S _).mono ?_
  rintro e w3 ⟨rfl, hk3⟩
  have hz3 := hz1.then hk3
  go_wp2_with fail
  refine (RS _).mono ?_
  rintro e w4 ⟨rfl, hk4⟩
  have hz4 := hz3.then hk4
  go_wp2_with fail
  refine (RR _).mono ?_
  rintro e w5 ⟨rfl, rfl⟩
  go_wp2_with fail
  go_ret
  exact ⟨by simp, hz4⟩
end Go.Proofs.YtdioaclegmalpaaDoor.Hand
