/- The document's parts of a double, its rank and its order, walked. -/
import Derived.Test.YtdioaclegmalpaaDoorHandD
namespace Go.Proofs.YtdioaclegmalpaaDoor.Hand
open Go.RowKit Go.Sort Go.Lib Go.Proofs.YtdioaclegmalpaaDoorW.PrintWords Go.Proofs.YtdioaclegmalpaaDoor.XA

theorem results_tmp4 {fn : Func} {t u v x : Tmp} (h : fn.results = #[.tmp t, .tmp u, .tmp v, .tmp x]) (tmps : Array Value) (P : Program) (w : World) :
    (results fn tmps).run P w = .ok (.tuple #[tmps.getD t undef, tmps.getD u undef, tmps.getD v undef, tmps.getD x undef]) w := by
  simp [results, h]

def pM (b : Nat) : Bool := decide (9223372036854775808 ≤ b)
def pE (b : Nat) : Nat := b / 4503599627370496 % 2048
def pW (b : Nat) : Nat := if pE b = 2047 ∨ pE b = 0 then b % 4503599627370496 else b % 4503599627370496 + 4503599627370496
def pP (b : Nat) : Int := if pE b = 2047 then 0 else if pE b = 0 then -1074 else (pE b : Int) - 1075
def pO (b : Nat) : Bool := decide (¬ pE b = 2047)
set_option maxHeartbeats 2000000 in
set_option maxRecDepth 20000 in
theorem parts_walk (b : Nat) (bI q1 q2 p wh wh2 p2 : Int) (mB : Bool) (w : World) (hf : ∀ w, (callFunc 35 #[.float .f64 b]).run Tryd.prog w = .ok (.value (.int .u64 bI)) w)
    (h1 : IntKind.u64.wrap (bI.tdiv 9223372036854775808) = q1) (h2 : IntKind.u64.wrap (bI.tdiv 4503599627370496) = q2) (h3 : q2.tmod 2048 = p) (h4 : IntKind.i64.wrap p = p) (h5 : bI.tmod 4503599627370496 = wh)
    (h6 : (q1 == 1) = mB) (h7 : IntKind.u64.wrap (wh + 4503599627370496) = wh2) (h8 : IntKind.i64.wrap (p - 1075) = p2) (W P : Int) (O : Bool)
    (c1 : p = 2047 → W = wh ∧ P = 0 ∧ O = false) (c2 : p = 0 → W = wh ∧ P = -1074 ∧ O = true) (c3 : ¬ p = 2047 → ¬ p = 0 → W = wh2 ∧ P = p2 ∧ O = true) :
    Calls Tryd.prog 37 #[.float .f64 b] w fun e w' => e = .returned (.tuple #[.bool mB, .int .u64 W, .int .i64 P, .bool O]) ∧ w' = w := by
  have C1 := Lib.hid c1
  have C2 := Lib.hid c2
  have C3 := Lib.hid c3
  clear c1 c2 c3
  by_cases g1 : p = 2047
  · obtain ⟨rfl, rfl, rfl⟩ := C1.out g1
    have t1 : (p == 2047) = true := by simpa using g1
    clear C1 C2 C3 g1
    go_enter Tryd.func37, Tryd.ntmps37
    go_wp2_with fail
    refine bodyPost_ret (results_tmp4 rfl _ _ _) rfl ?_
    exact ⟨rfl, rfl⟩
  by_cases g2 : p = 0
  · obtain ⟨rfl, rfl, rfl⟩ := C2.out g2
    have t1 : (p == 2047) = false := by simp; omega
    have t2 : (p == 0) = true := by simpa using g2
    clear C1 C2 C3 g1 g2
    go_enter Tryd.func37, Tryd.ntmps37
    go_wp2_with fail
    refine bodyPost_ret (results_tmp4 rfl _ _ _) rfl ?_
    exact ⟨rfl, rfl⟩
  · obtain ⟨rfl, rfl, rfl⟩ := C3.out g1 g2
    have t1 : (p == 2047) = false := by simpa using g1
    have t2 : (p == 0) = false := by simpa using g2
    clear C1 C2 C3 g1 g2
    go_enter Tryd.func37, Tryd.ntmps37
    go_wp2_with fail
    refine bodyPost_ret (results_tmp4 rfl _ _ _) rfl ?_
    exact ⟨rfl, rfl⟩
theorem parts_any (b : Nat) (hb : b < 18446744073709551616) (w : World) : Calls Tryd.prog 37 #[.float .f64 b] w fun e w' => e = .returned (.tuple #[.bool (pM b), .int .u64 (pW b : Nat), .int .i64 (pP b), .bool (pO b)]) ∧ w' = w := by
  have he : pE b < 2048 := Nat.mod_lt _ (by decide)
  refine parts_walk b b (b / 9223372036854775808 : Nat) (b / 4503599627370496 : Nat) (pE b : Nat) (b % 4503599627370496 : Nat) ((b % 4503599627370496 : Nat) + 4503599627370496) ((pE b : Int) - 1075) _ w (fun w => fbits b w) ?_ ?_ ?_ ?_ ?_ ?_ ?_ ?_ _ _ _ ?_ ?_ ?_
  · rw [IntKind.wrap_u64, Int.tdiv_eq_ediv_of_nonneg (by omega)]; omega
  · rw [IntKind.wrap_u64, Int.tdiv_eq_ediv_of_nonneg (by omega)]; omega
  · rw [Int.tmod_eq_emod_of_nonneg (by omega)]; unfold pE; omega
  · rw [IntKind.wrap_i64]; omega
  · rw [Int.tmod_eq_emod_of_nonneg (by omega)]; omega
  · unfold pM
    by_cases h : 9223372036854775808 ≤ b
    · rw [decide_eq_true h, show b / 9223372036854775808 = 1 by omega]
      rfl
    · rw [decide_eq_false h, show b / 9223372036854775808 = 0 by omega]
      rfl
  · rw [IntKind.wrap_u64]; omega
  · rw [IntKind.wrap_i64]; omega
  · intro h
    have h' : pE b = 2047 := by omega
    unfold pW pP pO
    rw [if_pos (Or.inl h'), if_pos h', decide_eq_false (by omega)]
    exact ⟨rfl, rfl, rfl⟩
  · intro h
    have h' : pE b = 0 := by omega
    unfold pW pP pO
    rw [if_pos (Or.inr h'), if_neg (by omega), if_pos h', decide_eq_true (by omega)]
    exact ⟨rfl, rfl, rfl⟩
  · intro h h2
    unfold pW pP pO
    rw [if_neg (by omega), if_neg (by omega), if_neg (by omega), decide_eq_true (by omega)]
    exact ⟨by omega, rfl, rfl⟩

def rankS (b : Nat) : Int := if pO b = false then (if 0 < pW b then 6 else if pM b then 0 else 5) else (if pW b = 0 then (if pM b then 2 else 3) else if pM b then 1 else 4)
set_option maxHeartbeats 4000000 in
set_option maxRecDepth 20000 in
theorem rank_any (b : Nat) (hb : b < 18446744073709551616) (w : World) : Calls Tryd.prog 48 #[.float .f64 b] w fun e w' => e = .returned (.int .i64 (rankS b)) ∧ w' = w := by
  have P := fun w => parts_any b hb w
  unfold rankS
  obtain ⟨W, hW⟩ : ∃ W, W = pW b := ⟨_, rfl⟩
  rw [← hW] at P ⊢
  generalize pO b = O at P ⊢
  generalize pM b = m at P ⊢
  generalize pP b = pp at P
  clear hW hb
  by_cases h0 : 0 < W
  · have t1 : (0 : Int) < (W : Int) := by omega
    have t2 : ((W : Int) == 0) = false := by simp; omega
    have hr : (if O = false then (if 0 < W then (6 : Int) else if m then 0 else 5) else (if W = 0 then (if m then 2 else 3) else if m then 1 else 4)) = if O = false then 6 else if m then 1 else 4 := by
      rw [if_pos h0, if_neg (show ¬ W = 0 by omega)]
    rw [hr]
    clear hr h0
    generalize (W : Int) = WI at P t1 t2
    cases O <;> cases m
    all_goals go_enter Tryd.func48, Tryd.ntmps48
    all_goals go_wp2_with fail
    all_goals refine (P _).mono ?_
    all_goals rintro e w1 ⟨rfl, rfl⟩
    all_goals go_wp2_with fail
    all_goals go_ret
    all_goals exact ⟨rfl, rfl⟩
  · have hW0 : W = 0 := by omega
    subst hW0
    cases O <;> cases m
    all_goals go_enter Tryd.func48, Tryd.ntmps48
    all_goals go_wp2_with fail
    all_goals refine (P _).mono ?_
    all_goals rintro e w1 ⟨rfl, rfl⟩
    all_goals go_wp2_with fail
    all_goals go_ret
    all_goals exact ⟨rfl, rfl⟩
end Go.Proofs.YtdioaclegmalpaaDoor.Hand
