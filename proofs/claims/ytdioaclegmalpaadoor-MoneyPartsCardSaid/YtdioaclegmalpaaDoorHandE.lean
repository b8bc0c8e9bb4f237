/- Scale, walked. -/
import Derived.Test.YtdioaclegmalpaaDoorHandD
namespace Go.Proofs.YtdioaclegmalpaaDoor.Hand
open Go.RowKit Go.Sort Go.Lib Go.Proofs.YtdioaclegmalpaaDoorW.PrintWords Go.Proofs.YtdioaclegmalpaaDoor.XA

set_option maxHeartbeats 4000000 in
set_option maxRecDepth 20000 in
theorem scale_walk (n : Nat) (b : Nat) (hn : n ≤ 9007199254740992) (hb : b ≤ 4607182418800017408) (f0 f1 eI byI : Int) (H Lo res : Int)
    (q0 : bits .and .u64 (b : Int) 4503599627370495 = f0) (q1 : bits .or .u64 f0 4503599627370496 = f1) (q2 : (b : Int) / 4503599627370496 = eI) (q3 : 0 < eI)
    (q4 : IntKind.i64.wrap (1075 - eI) = byI) (hby : 0 < byI)
    (M : ∀ w, Calls Tryd.prog 36 #[.int .u64 n, .int .u64 f1] w fun e w' => e = .returned (.tuple #[.int .u64 H, .int .u64 Lo]) ∧ w' = w)
    (r1 : 107 < byI → res = 0)
    (r2 : 64 < byI → byI ≤ 107 → res = wrap64 (IntKind.u64.wrap (bits BinOp.or IntKind.u64 (H / 2 ^ (byI - 65).toNat / 2) 0 + bits BinOp.and IntKind.u64 (H / 2 ^ (byI - 65).toNat) 1)))
    (r3 : byI = 64 → res = wrap64 (IntKind.u64.wrap (bits BinOp.or IntKind.u64 (bits BinOp.or IntKind.u64 (IntKind.u64.wrap (H * 2)) (Lo / 9223372036854775808) / 2) (IntKind.u64.wrap (H / 9223372036854775808 * 9223372036854775808)) + bits BinOp.and IntKind.u64 (bits BinOp.or IntKind.u64 (IntKind.u64.wrap (H * 2)) (Lo / 9223372036854775808)) 1)))
    (r4 : ∀ s1 s2 : Int, byI < 64 → s1 = byI - 1 → s2 = 65 - byI → res = wrap64 (IntKind.u64.wrap (bits BinOp.or IntKind.u64 (bits BinOp.or IntKind.u64 (IntKind.u64.wrap (H * 2 ^ min s2.toNat 64)) (Lo / 2 ^ min s1.toNat 64) / 2) (IntKind.u64.wrap (H / 2 ^ min s1.toNat 64 * 9223372036854775808)) + bits BinOp.and IntKind.u64 (bits BinOp.or IntKind.u64 (IntKind.u64.wrap (H * 2 ^ min s2.toNat 64)) (Lo / 2 ^ min s1.toNat 64)) 1)))
    (w : World) : Calls Tryd.prog 14 #[.int .i64 n, .float .f64 b] w fun e w' => e = .returned (.tuple #[.int .i64 res, .int .i64 0]) ∧ Kept w w' := by
  have R := fun w => rate_any b w (by omega)
  have Q := fun w => money_Right.calls n _ w (right_f n)
  have hr : rateS b = true := decide_eq_true hb
  have hq : rightS n = true := decide_eq_true (by omega)
  rw [hr] at R
  rw [hq] at Q
  have hf := fun w => fbits b w
  have hn0 : ¬ (n : Int) < 0 := by omega
  have hn1 : IntKind.u64.wrap (n : Int) = n := by rw [IntKind.wrap_u64]; omega
  have he1 : IntKind.i64.wrap eI = eI := by rw [IntKind.wrap_i64]; omega
  clear hr hq hn hb
  generalize (n : Int) = nI at M Q hn0 hn1 ⊢
  generalize (b : Int) = bI at hf q0 q2
  have mx := mixed
  have R1 := Lib.hid r1
  have R2 := Lib.hid r2
  have R3 := Lib.hid r3
  have R4 := Lib.hid r4
  clear r1 r2 r3 r4
  go_enter Tryd.func14, Tryd.ntmps14
  go_wp2_with fail
  refine (Q _).mono ?_
  rintro e w1 ⟨rfl, hd⟩
  go_wp2_with fail
  refine (R _).mono ?_
  rintro e w2 ⟨rfl, rfl⟩
  clear R Q
  go_wp2_with fail
  refine (M _).mono ?_
  rintro e w3 ⟨rfl, rfl⟩
  clear M q0 q1 q2 q3 q4
  have hz : Kept w w3 := (Kept.refl w).drawn hd
  clear hd
  by_cases c1 : 107 < byI
  · go_wp2_with fail
    go_ret2
    exact ⟨by rw [R1.out c1]; rfl, hz⟩
  by_cases c2 : 64 < byI
  · go_wp2_with fail
    go_quiet (fail)
    have hz1 := hz.drewN nq
    generalize w3.drewN nq = w4 at hz1 ⊢
    go_wp2_with fail
    go_ret2
    exact ⟨by rw [R2.out c2 (by omega)]; rfl, hz1⟩
  by_cases c3 : (byI == 64) = true
  · go_wp2_with fail
    go_ret2
    exact ⟨by rw [R3.out (by simpa using c3)]; rfl, hz⟩
  · obtain ⟨s1, hs1⟩ : ∃ s, s = byI - 1 := ⟨_, rfl⟩
    obtain ⟨s2, hs2⟩ : ∃ s, s = 65 - byI := ⟨_, rfl⟩
    have c4 : byI < 64 := by
      have : ¬ byI = 64 := by simpa using c3
      omega
    have R5 := Lib.hid (R4.out s1 s2 c4 hs1 hs2)
    have g1 : 0 ≤ s1 := by omega
    have g2 : 0 ≤ s2 := by omega
    have p1 : IntKind.i64.wrap (byI - 1) = s1 := by rw [IntKind.wrap_i64]; omega
    have p2 : IntKind.i64.wrap (65 - byI) = s2 := by rw [IntKind.wrap_i64]; omega
    clear hs1 hs2 c4
    go_wp2_with fail
    go_quiet (fail)
    have hz1 := hz.drewN nq
    generalize w3.drewN nq = w4 at hz1 ⊢
    go_wp2_with fail
    go_ret2
    exact ⟨by rw [R5.out]; rfl, hz1⟩
end Go.Proofs.YtdioaclegmalpaaDoor.Hand
