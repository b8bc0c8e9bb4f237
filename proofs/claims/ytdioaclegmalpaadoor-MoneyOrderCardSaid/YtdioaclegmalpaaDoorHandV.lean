/- The doubles' order, the program's and the document's, walked. -/
import Derived.Test.YtdioaclegmalpaaDoorPureO
namespace Go.Proofs.YtdioaclegmalpaaDoor.Hand
open Go.RowKit Go.Sort Go.Lib Go.Proofs.YtdioaclegmalpaaDoorW.PrintWords Go.Proofs.YtdioaclegmalpaaDoor.XA

theorem rank_sg {a b : Nat} (ha : a < 18446744073709551616) (hb : b < 18446744073709551616) :
    (rankS a < rankS b → K a < K b) ∧ (rankS b < rankS a → K b < K a) ∧ (rankS a = rankS b → ¬ rankS a = 1 → ¬ rankS a = 4 → K a = K b) ∧ (rankS a = rankS b → (rankS a = 1 ∨ rankS a = 4) → ¬ inf < rg a ∧ ¬ inf < rg b ∧ ¬ (rg a = 0 ∧ rg b = 0)) := by
  have h1 := rg_lt a
  have h2 := rg_lt b
  rw [rank_law ha, rank_law hb]
  unfold K inf
  generalize rg a = r at h1 ⊢
  generalize rg b = s at h2 ⊢
  clear ha hb
  by_cases c1 : 9218868437227405312 < r
  · rw [if_pos c1, if_pos c1]
    by_cases d1 : 9218868437227405312 < s
    · rw [if_pos d1, if_pos d1]; omega
    · rw [if_neg d1, if_neg d1]
      cases ng b <;> simp only [if_true, Bool.false_eq_true, if_false] <;> refine ⟨?_, ?_, ?_, ?_⟩ <;> (repeat' split) <;> omega
  · rw [if_neg c1, if_neg c1]
    by_cases d1 : 9218868437227405312 < s
    · rw [if_pos d1, if_pos d1]
      cases ng a <;> simp only [if_true, Bool.false_eq_true, if_false] <;> refine ⟨?_, ?_, ?_, ?_⟩ <;> (repeat' split) <;> omega
    · rw [if_neg d1, if_neg d1]
      cases ng a <;> cases ng b <;> simp only [if_true, Bool.false_eq_true, if_false] <;> refine ⟨?_, ?_, ?_, ?_⟩ <;> (repeat' split) <;> omega

set_option maxHeartbeats 4000000 in
set_option maxRecDepth 20000 in
theorem rorder_any (a b : Nat) (ha : a < 18446744073709551616) (hb : b < 18446744073709551616) (w : World) : Calls Tryd.prog 33 #[.float .f64 a, .float .f64 b] w fun e w' => e = .returned (.int .i64 (sg (K a) (K b))) ∧ w' = w := by
  have RA := fun w => rank_any a ha w
  have RB := fun w => rank_any b hb w
  obtain ⟨p1, p2, p3, p4⟩ := rank_sg ha hb
  have fl := fun h1 h2 h3 => order_lt (a := a) (b := b) h1 h2 h3
  obtain ⟨R, hR⟩ : ∃ R, R = sg (K a) (K b) := ⟨_, rfl⟩
  rw [← hR]
  obtain ⟨ql, hql⟩ : ∃ q, q = (Ieee.double.order a b == some .lt) := ⟨_, rfl⟩
  obtain ⟨qg, hqg⟩ : ∃ q, q = (Ieee.double.order a b == some .gt) := ⟨_, rfl⟩
  have hql' : (FloatKind.f64.format.order a b == some .lt) = ql := hql.symm
  have hqg' : (FloatKind.f64.format.order a b == some .gt) = qg := hqg.symm
  rw [← hql, ← hqg] at fl
  generalize rankS a = x at RA p1 p2 p3 p4
  generalize rankS b = y at RB p1 p2 p3 p4
  clear hql hqg ha hb
  rcases Int.lt_trichotomy x y with h | h | h
  · have hv : R = -1 := by rw [hR]; exact sg_lt (p1 h)
    subst hv
    clear p1 p2 p3 p4 fl hR
    go_enter Tryd.func33, Tryd.ntmps33
    go_wp2_with fail
    refine (RA _).mono ?_
    rintro e w1 ⟨rfl, rfl⟩
    go_wp2_with fail
    refine (RB _).mono ?_
    rintro e w1 ⟨rfl, rfl⟩
    go_wp2_with fail
    go_ret
    exact ⟨rfl, rfl⟩
  · subst h
    by_cases h14 : x = 1 ∨ x = 4
    · obtain ⟨g1, g2, g3⟩ := p4 rfl h14
      obtain ⟨f1, f2⟩ := fl g1 g2 g3
      have t1 : ((x != 1) && (x != 4)) = false := by rcases h14 with h | h <;> rw [h] <;> rfl
      have key3 : (ql = true ∧ R = -1) ∨ (ql = false ∧ qg = true ∧ R = 1) ∨ (ql = false ∧ qg = false ∧ R = 0) := by
        rw [f1, f2, hR]
        rcases Int.lt_trichotomy (K a) (K b) with h | h | h
        · exact .inl ⟨decide_eq_true h, sg_lt h⟩
        · exact .inr (.inr ⟨decide_eq_false (by omega), decide_eq_false (by omega), sg_eq h⟩)
        · exact .inr (.inl ⟨decide_eq_false (by omega), decide_eq_true h, sg_gt h⟩)
      clear p1 p2 p3 p4 fl hR g1 g2 g3 f1 f2
      have n1 : ¬ x < x := by omega
      rcases h14 with rfl | rfl
      all_goals rcases key3 with ⟨rfl, rfl⟩ | ⟨rfl, rfl, rfl⟩ | ⟨rfl, rfl, rfl⟩
      all_goals clear t1 n1
      all_goals go_enter Tryd.func33, Tryd.ntmps33
      all_goals go_wp2_with fail
      all_goals refine (RA _).mono ?_
      all_goals rintro e w1 ⟨rfl, rfl⟩
      all_goals go_wp2_with fail
      all_goals refine (RB _).mono ?_
      all_goals rintro e w1 ⟨rfl, rfl⟩
      all_goals go_wp2_with fail
      all_goals go_ret
      all_goals exact ⟨rfl, rfl⟩
    · have hv : R = 0 := by rw [hR]; exact sg_eq (p3 rfl (fun h => h14 (.inl h)) (fun h => h14 (.inr h)))
      subst hv
      have t1 : (x != 1) = true := by simp; omega
      have t2 : (x != 4) = true := by simp; omega
      clear p1 p2 p3 p4 fl hR h14
      go_enter Tryd.func33, Tryd.ntmps33
      go_wp2_with fail
      refine (RA _).mono ?_
      rintro e w1 ⟨rfl, rfl⟩
      go_wp2_with fail
      refine (RB _).mono ?_
      rintro e w1 ⟨rfl, rfl⟩
      go_wp2_with fail
      go_ret
      exact ⟨rfl, rfl⟩
  · have hv : R = 1 := by rw [hR]; exact sg_gt (p2 h)
    subst hv
    have h' : ¬ x < y := by omega
    clear p1 p2 p3 p4 fl hR
    go_enter Tryd.func33, Tryd.ntmps33
    go_wp2_with fail
    refine (RA _).mono ?_
    rintro e w1 ⟨rfl, rfl⟩
    go_wp2_with fail
    refine (RB _).mono ?_
    rintro e w1 ⟨rfl, rfl⟩
    go_wp2_with fail
    go_ret
    exact ⟨rfl, rfl⟩

set_option maxRecDepth 20000 in
theorem isnan_any (a : Nat) (w : World) : Calls Tryd.prog 44 #[.float .f64 a] w fun e w' => e = .returned (.bool (nanB a)) ∧ w' = w := by
  have h : (FloatKind.f64.format.order a a != some .eq) = nanB a := order_self a
  generalize nanB a = q at h ⊢
  go_enter Tryd.func44, Tryd.ntmps44
  go_wp2_with fail
  go_ret
  exact ⟨rfl, rfl⟩
set_option maxRecDepth 20000 in
theorem cisnan_any (a : Nat) (w : World) : Calls Tryd.prog 55 #[.float .f64 a] w fun e w' => e = .returned (.bool (nanB a)) ∧ w' = w := by
  have h : (FloatKind.f64.format.order a a != some .eq) = nanB a := order_self a
  generalize nanB a = q at h ⊢
  go_enter Tryd.func55, Tryd.ntmps55
  go_wp2_with fail
  go_ret
  exact ⟨rfl, rfl⟩
def signS (b : Nat) : Int := if pM b then 0 else 1
set_option maxRecDepth 20000 in
theorem sign_any (a : Nat) (ha : a < 18446744073709551616) (w : World) : Calls Tryd.prog 46 #[.float .f64 a] w fun e w' => e = .returned (.int .i64 (signS a)) ∧ w' = w := by
  have S := fun w => signbit_any a w ha
  have e : decide (9223372036854775808 ≤ a) = pM a := rfl
  rw [e] at S
  unfold signS
  generalize pM a = q at S ⊢
  clear e ha
  cases q
  all_goals go_enter Tryd.func46, Tryd.ntmps46
  all_goals go_wp2_with fail
  all_goals refine (S _).mono ?_
  all_goals rintro e w1 ⟨rfl, rfl⟩
  all_goals go_wp2_with fail
  all_goals go_ret
  all_goals exact ⟨rfl, rfl⟩
set_option maxHeartbeats 4000000 in
set_option maxRecDepth 20000 in
theorem compare_any (a b : Nat) (ha : ¬ inf < rg a) (hb : ¬ inf < rg b) (hz : ¬ (rg a = 0 ∧ rg b = 0)) (w : World) : Calls Tryd.prog 47 #[.float .f64 a, .float .f64 b] w fun e w' => e = .returned (.int .i64 (sg (K a) (K b))) ∧ w' = w := by
  have NA := fun w => cisnan_any a w
  have NB := fun w => cisnan_any b w
  have e1 : nanB a = false := decide_eq_false ha
  have e2 : nanB b = false := decide_eq_false hb
  rw [e1] at NA
  rw [e2] at NB
  obtain ⟨f1, f2⟩ := order_lt ha hb hz
  obtain ⟨R, hR⟩ : ∃ R, R = sg (K a) (K b) := ⟨_, rfl⟩
  rw [← hR]
  obtain ⟨ql, hql⟩ : ∃ q, q = (Ieee.double.order a b == some .lt) := ⟨_, rfl⟩
  obtain ⟨qg, hqg⟩ : ∃ q, q = (Ieee.double.order a b == some .gt) := ⟨_, rfl⟩
  have hql' : (FloatKind.f64.format.order a b == some .lt) = ql := hql.symm
  have hqg' : (FloatKind.f64.format.order a b == some .gt) = qg := hqg.symm
  rw [← hql] at f1
  rw [← hqg] at f2
  have key3 : (ql = true ∧ R = -1) ∨ (ql = false ∧ qg = true ∧ R = 1) ∨ (ql = false ∧ qg = false ∧ R = 0) := by
    rw [f1, f2, hR]
    rcases Int.lt_trichotomy (K a) (K b) with h | h | h
    · exact .inl ⟨decide_eq_true h, sg_lt h⟩
    · exact .inr (.inr ⟨decide_eq_false (by omega), decide_eq_false (by omega), sg_eq h⟩)
    · exact .inr (.inl ⟨decide_eq_false (by omega), decide_eq_true h, sg_gt h⟩)
  clear hql hqg f1 f2 hR ha hb hz e1 e2
  rcases key3 with ⟨rfl, rfl⟩ | ⟨rfl, rfl, rfl⟩ | ⟨rfl, rfl, rfl⟩
  all_goals go_enter Tryd.func47, Tryd.ntmps47
  all_goals go_wp2_with fail
  all_goals refine (NA _).mono ?_
  all_goals rintro e w1 ⟨rfl, rfl⟩
  all_goals go_wp2_with fail
  all_goals refine (NB _).mono ?_
  all_goals rintro e w1 ⟨rfl, rfl⟩
  all_goals go_wp2_with fail
  all_goals go_ret
  all_goals exact ⟨rfl, rfl⟩

set_option maxHeartbeats 4000000 in
set_option maxRecDepth 20000 in
theorem order_any (a b : Nat) (ha : a < 18446744073709551616) (hb : b < 18446744073709551616) (w : World) : Calls Tryd.prog 32 #[.float .f64 a, .float .f64 b] w fun e w' => e = .returned (.int .i64 (sg (K a) (K b))) ∧ w' = w := by
  have NA := fun w => isnan_any a w
  have NB := fun w => isnan_any b w
  by_cases na : inf < rg a
  · have e1 : nanB a = true := decide_eq_true na
    rw [e1] at NA
    by_cases nb : inf < rg b
    · have e2 : nanB b = true := decide_eq_true nb
      have hv : sg (K a) (K b) = 0 := sg_eq (by rw [K_nan na, K_nan nb])
      rw [e2] at NB
      rw [hv]
      clear hv e1 e2 na nb ha hb
      go_enter Tryd.func32, Tryd.ntmps32
      go_wp2_with fail
      refine (NA _).mono ?_
      rintro e w1 ⟨rfl, rfl⟩
      go_wp2_with fail
      refine (NB _).mono ?_
      rintro e w1 ⟨rfl, rfl⟩
      go_wp2_with fail
      go_ret
      exact ⟨rfl, rfl⟩
    · have e2 : nanB b = false := decide_eq_false nb
      have hv : sg (K a) (K b) = 1 := sg_gt (by rw [K_nan na]; exact K_bound nb)
      rw [e2] at NB
      rw [hv]
      clear hv e1 e2 na nb ha hb
      go_enter Tryd.func32, Tryd.ntmps32
      go_wp2_with fail
      refine (NA _).mono ?_
      rintro e w1 ⟨rfl, rfl⟩
      go_wp2_with fail
      refine (NB _).mono ?_
      rintro e w1 ⟨rfl, rfl⟩
      go_wp2_with fail
      go_ret
      exact ⟨rfl, rfl⟩
  · have e1 : nanB a = false := decide_eq_false na
    rw [e1] at NA
    by_cases nb : inf < rg b
    · have e2 : nanB b = true := decide_eq_true nb
      have hv : sg (K a) (K b) = -1 := sg_lt (by rw [K_nan nb]; exact K_bound na)
      rw [e2] at NB
      rw [hv]
      clear hv e1 e2 na nb ha hb
      go_enter Tryd.func32, Tryd.ntmps32
      go_wp2_with fail
      refine (NA _).mono ?_
      rintro e w1 ⟨rfl, rfl⟩
      go_wp2_with fail
      refine (NB _).mono ?_
      rintro e w1 ⟨rfl, rfl⟩
      go_wp2_with fail
      go_ret
      exact ⟨rfl, rfl⟩
    · have e2 : nanB b = false := decide_eq_false nb
      rw [e2] at NB
      have za : (FloatKind.f64.format.order a 0 == some .eq) = decide (rg a = 0) := order_zero na
      have zb : (FloatKind.f64.format.order b 0 == some .eq) = decide (rg b = 0) := order_zero nb
      by_cases hz : rg a = 0 ∧ rg b = 0
      · rw [decide_eq_true hz.1] at za
        rw [decide_eq_true hz.2] at zb
        have SA := fun w => sign_any a ha w
        have SB := fun w => sign_any b hb w
        have hv : sg (K a) (K b) = Lib.compareInt (signS a) (signS b) := by
          rw [K_num na, K_num nb, hz.1, hz.2]
          unfold signS
          rw [pM_ng ha, pM_ng hb]
          cases ng a <;> cases ng b <;> rfl
        rw [hv]
        have CI := fun w => Tryd.cmp_Compare_int (signS a) (signS b) w
        generalize signS a = x at SA CI ⊢
        generalize signS b = y at SB CI ⊢
        generalize Lib.compareInt x y = r at CI ⊢
        clear hv e1 e2 na nb ha hb hz
        go_enter Tryd.func32, Tryd.ntmps32
        go_wp2_with fail
        refine (NA _).mono ?_
        rintro e w1 ⟨rfl, rfl⟩
        go_wp2_with fail
        refine (NB _).mono ?_
        rintro e w1 ⟨rfl, rfl⟩
        go_wp2_with fail
        refine (SA _).mono ?_
        rintro e w1 ⟨rfl, rfl⟩
        go_wp2_with fail
        refine (SB _).mono ?_
        rintro e w1 ⟨rfl, rfl⟩
        go_wp2_with fail
        refine (CI _).mono ?_
        rintro e w1 ⟨rfl, rfl⟩
        go_wp2_with fail
        go_ret
        exact ⟨rfl, rfl⟩
      · have C := fun w => compare_any a b na nb hz w
        generalize sg (K a) (K b) = r at C ⊢
        obtain ⟨qa, hqa⟩ : ∃ q, q = decide (rg a = 0) := ⟨_, rfl⟩
        obtain ⟨qb, hqb⟩ : ∃ q, q = decide (rg b = 0) := ⟨_, rfl⟩
        rw [← hqa] at za
        rw [← hqb] at zb
        have hq : qa = true → qb = true → False := fun h1 h2 => hz ⟨by rw [hqa] at h1; simpa using h1, by rw [hqb] at h2; simpa using h2⟩
        have HQ := Lib.hid hq
        clear hqa hqb e1 e2 na nb ha hb hz hq
        cases qa
        · clear HQ
          go_enter Tryd.func32, Tryd.ntmps32
          go_wp2_with fail
          refine (NA _).mono ?_
          rintro e w1 ⟨rfl, rfl⟩
          go_wp2_with fail
          refine (NB _).mono ?_
          rintro e w1 ⟨rfl, rfl⟩
          go_wp2_with fail
          refine (C _).mono ?_
          rintro e w1 ⟨rfl, rfl⟩
          go_wp2_with fail
          go_ret
          exact ⟨rfl, rfl⟩
        · cases qb
          · clear HQ
            go_enter Tryd.func32, Tryd.ntmps32
            go_wp2_with fail
            refine (NA _).mono ?_
            rintro e w1 ⟨rfl, rfl⟩
            go_wp2_with fail
            refine (NB _).mono ?_
            rintro e w1 ⟨rfl, rfl⟩
            go_wp2_with fail
            refine (C _).mono ?_
            rintro e w1 ⟨rfl, rfl⟩
            go_wp2_with fail
            go_ret
            exact ⟨rfl, rfl⟩
          · exact (HQ.out rfl rfl).elim
end Go.Proofs.YtdioaclegmalpaaDoor.Hand
