/- The document's amounts as texts, walked. -/
import Derived.Test.YtdioaclegmalpaaDoorHandJ
namespace Go.Proofs.YtdioaclegmalpaaDoor.Hand
open Go.RowKit Go.Sort Go.Lib Go.Proofs.YtdioaclegmalpaaDoorW.PrintWords Go.Proofs.YtdioaclegmalpaaDoor.XA

def digB (k : Nat) : ByteArray := ⟨#[UInt8.ofNat (48 + k)]⟩
theorem enc_dig (k : Nat) (h : k < 10) : Utf8.encode (48 + (k : Int)) = digB k := by
  match k, h with
  | 0, _ => rfl
  | 1, _ => rfl
  | 2, _ => rfl
  | 3, _ => rfl
  | 4, _ => rfl
  | 5, _ => rfl
  | 6, _ => rfl
  | 7, _ => rfl
  | 8, _ => rfl
  | 9, _ => rfl
set_option maxHeartbeats 2000000 in
set_option maxRecDepth 20000 in
theorem dig_small (n k A : Int) (x : ByteArray) (w : World) (hn : n < 10) (hk : k ≤ 1) (ha : IntKind.u64.wrap (48 + n) = A) (ha2 : IntKind.i32.wrap A = A) (ex : Utf8.encode A = x) : Calls Tryd.prog 42 #[.int .u64 n, .int .i64 k] w fun e w' => e = .returned (.string x) ∧ w' = w := by
  go_enter Tryd.func42, Tryd.ntmps42
  go_wp2_with fail
  go_ret
  exact ⟨rfl, rfl⟩
set_option maxHeartbeats 2000000 in
set_option maxRecDepth 20000 in
theorem dig_big (n k k1 q b B : Int) (x y : ByteArray) (w : World) (hn : ¬ n < 10 ∨ ¬ k ≤ 1) (hk : IntKind.i64.wrap (k - 1) = k1) (hq : IntKind.u64.wrap (n.tdiv 10) = q) (hb : n.tmod 10 = b) (hb' : IntKind.u64.wrap (48 + b) = B) (hb2 : IntKind.i32.wrap B = B) (ey : Utf8.encode B = y)
    (l0 : ∀ w, (Op.stringOp .add x y).run Tryd.prog w = .ok (.string (x ++ y)) w)
    (C : ∀ w, Calls Tryd.prog 42 #[.int .u64 q, .int .i64 k1] w fun e w' => e = .returned (.string x) ∧ w' = w) : Calls Tryd.prog 42 #[.int .u64 n, .int .i64 k] w fun e w' => e = .returned (.string (x ++ y)) ∧ w' = w := by
  by_cases hn1 : n < 10
  · have hk1 : ¬ k ≤ 1 := by omega
    clear hn
    go_enter Tryd.func42, Tryd.ntmps42
    go_wp2_with fail
    refine (C _).mono ?_
    rintro e w1 ⟨rfl, rfl⟩
    go_wp2_with fail
    go_ret
    exact ⟨rfl, rfl⟩
  · clear hn
    go_enter Tryd.func42, Tryd.ntmps42
    go_wp2_with fail
    refine (C _).mono ?_
    rintro e w1 ⟨rfl, rfl⟩
    go_wp2_with fail
    go_ret
    exact ⟨rfl, rfl⟩
theorem dec_bytes (u : Nat) (d : Nat) (h : u < 10 ^ (d + 1)) (hd : d ≤ 100) : (⟨(Lib.decDigits u).toArray⟩ : ByteArray).size ≤ 101 := by
  have := dec_short d u h
  show (Lib.decDigits u).toArray.size ≤ 101
  simp only [List.size_toArray]
  omega
theorem dig_step (u : Nat) (k : Int) (hu : u < 18446744073709551616) (hk : -1000 ≤ k ∧ k ≤ 1000) (hb : ¬ u < 10 ∨ ¬ k ≤ 1) (x : ByteArray) (hx : x.size ≤ 101) (w : World) (C : ∀ w, Calls Tryd.prog 42 #[.int .u64 (u / 10 : Nat), .int .i64 (k - 1)] w fun e w' => e = .returned (.string x) ∧ w' = w) :
    Calls Tryd.prog 42 #[.int .u64 u, .int .i64 k] w fun e w' => e = .returned (.string (x ++ digB (u % 10))) ∧ w' = w :=
  dig_big u k (k - 1) (u / 10 : Nat) (u % 10 : Nat) (48 + (u % 10 : Nat)) x (digB (u % 10)) w (by omega) (by rw [IntKind.wrap_i64]; omega)
    (by rw [IntKind.wrap_u64, Int.tdiv_eq_ediv_of_nonneg (by omega)]; omega) (by rw [Int.tmod_eq_emod_of_nonneg (by omega)]; omega)
    (by rw [IntKind.wrap_u64]; omega) (by rw [IntKind.wrap_i32]; omega) (enc_dig _ (by omega))
    (fun w => run_string_add_sum (P := Tryd.prog) w _ _ (by show x.size + 1 ≤ 9223372036854775807; omega)) C
theorem dig_any (d : Nat) : d ≤ 30 → ∀ (u : Nat) (k : Int) (w : World), u < 10 ^ (d + 1) → u < 18446744073709551616 → (d : Int) - 1000 ≤ k → k ≤ 1 → Calls Tryd.prog 42 #[.int .u64 u, .int .i64 k] w fun e w' => e = .returned (.string ⟨(Lib.decDigits u).toArray⟩) ∧ w' = w := by
  induction d with
  | zero =>
    intro _ u k w hu hu2 hk0 hk1
    have h : u < 10 := by simpa using hu
    have := dig_small u k (48 + (u : Int)) (digB u) w (by omega) hk1 (by rw [IntKind.wrap_u64]; omega) (by rw [IntKind.wrap_i32]; omega) (enc_dig u h)
    rw [dec_small u h]
    exact this
  | succ d ih =>
    intro hd u k w hu hu2 hk0 hk1
    by_cases h : u < 10
    · have := dig_small u k (48 + (u : Int)) (digB u) w (by omega) hk1 (by rw [IntKind.wrap_u64]; omega) (by rw [IntKind.wrap_i32]; omega) (enc_dig u h)
      rw [dec_small u h]
      exact this
    · have hu' : u / 10 < 10 ^ (d + 1) := by rw [Nat.pow_succ] at hu; omega
      have := dig_step u k hu2 (by omega) (Or.inl h) _ (dec_bytes (u / 10) d hu' (by omega)) w (fun w => ih (by omega) (u / 10) (k - 1) w hu' (by omega) (by omega) (by omega))
      have e : (⟨(Lib.decDigits (u / 10)).toArray⟩ : ByteArray) ++ digB (u % 10) = ⟨(Lib.decDigits u).toArray⟩ := by
        apply ba_ext
        rw [ba_app, dec_big u h]
        rfl
      rw [e] at this
      exact this
theorem dig_one (u : Nat) (hu : u < 18446744073709551616) (w : World) : Calls Tryd.prog 42 #[.int .u64 u, .int .i64 1] w fun e w' => e = .returned (.string ⟨(Lib.decDigits u).toArray⟩) ∧ w' = w :=
  dig_any 20 (by decide) u 1 w (Nat.lt_of_lt_of_le hu (by decide)) hu (by decide) (by decide)
theorem dig_two (u : Nat) (hu : u < 100) (w : World) : Calls Tryd.prog 42 #[.int .u64 u, .int .i64 2] w fun e w' => e = .returned (.string ⟨#[UInt8.ofNat (48 + u / 10), UInt8.ofNat (48 + u % 10)]⟩) ∧ w' = w := by
  have := dig_step u 2 (by omega) (by omega) (Or.inr (by decide)) _ (dec_bytes (u / 10) 1 (by simp; omega) (by decide)) w (fun w => dig_one (u / 10) (by omega) w)
  have e : (⟨(Lib.decDigits (u / 10)).toArray⟩ : ByteArray) ++ digB (u % 10) = ⟨#[UInt8.ofNat (48 + u / 10), UInt8.ofNat (48 + u % 10)]⟩ := by
    apply ba_ext
    rw [ba_app, dec_small _ (by omega)]
    rfl
  rw [e] at this
  exact this

set_option maxHeartbeats 2000000 in
set_option maxRecDepth 20000 in
theorem rtext_pos (n Q R : Int) (x y : ByteArray) (w : World) (hn : ¬ n < 0) (q0 : IntKind.u64.wrap n = n) (q1 : IntKind.u64.wrap (n.tdiv 100) = Q) (q2 : n.tmod 100 = R)
    (l0 : ∀ w, (Op.stringOp .add x ⟨#[46]⟩).run Tryd.prog w = .ok (.string (x ++ ⟨#[46]⟩)) w)
    (l1 : ∀ w, (Op.stringOp .add (x ++ ⟨#[46]⟩ : ByteArray) y).run Tryd.prog w = .ok (.string ((x ++ ⟨#[46]⟩ : ByteArray) ++ y)) w)
    (C1 : ∀ w, Calls Tryd.prog 42 #[.int .u64 Q, .int .i64 1] w fun e w' => e = .returned (.string x) ∧ w' = w)
    (C2 : ∀ w, Calls Tryd.prog 42 #[.int .u64 R, .int .i64 2] w fun e w' => e = .returned (.string y) ∧ w' = w) : Calls Tryd.prog 22 #[.int .i64 n] w fun e w' => e = .returned (.string ((x ++ ⟨#[46]⟩ : ByteArray) ++ y)) ∧ w' = w := by
  go_enter Tryd.func22, Tryd.ntmps22
  go_wp2_with fail
  refine (C1 _).mono ?_
  rintro e w1 ⟨rfl, rfl⟩
  go_wp2_with fail
  refine (C2 _).mono ?_
  rintro e w1 ⟨rfl, rfl⟩
  go_wp2_with fail
  go_ret
  exact ⟨rfl, rfl⟩
set_option maxHeartbeats 2000000 in
set_option maxRecDepth 20000 in
theorem rtext_neg (n n1 m M U Q R : Int) (x y : ByteArray) (w : World) (hn : n < 0) (p0 : IntKind.i64.wrap (n + 1) = n1) (p1 : IntKind.i64.wrap (-n1) = m) (p2 : IntKind.u64.wrap m = M) (p3 : IntKind.u64.wrap (M + 1) = U) (q1 : IntKind.u64.wrap (U.tdiv 100) = Q) (q2 : U.tmod 100 = R)
    (l2 : ∀ w, (Op.stringOp .add ⟨#[45]⟩ x).run Tryd.prog w = .ok (.string ((⟨#[45]⟩ : ByteArray) ++ x)) w)
    (l0 : ∀ w, (Op.stringOp .add ((⟨#[45]⟩ : ByteArray) ++ x) ⟨#[46]⟩).run Tryd.prog w = .ok (.string (((⟨#[45]⟩ : ByteArray) ++ x) ++ ⟨#[46]⟩)) w)
    (l1 : ∀ w, (Op.stringOp .add (((⟨#[45]⟩ : ByteArray) ++ x) ++ ⟨#[46]⟩ : ByteArray) y).run Tryd.prog w = .ok (.string ((((⟨#[45]⟩ : ByteArray) ++ x) ++ ⟨#[46]⟩ : ByteArray) ++ y)) w)
    (C1 : ∀ w, Calls Tryd.prog 42 #[.int .u64 Q, .int .i64 1] w fun e w' => e = .returned (.string x) ∧ w' = w)
    (C2 : ∀ w, Calls Tryd.prog 42 #[.int .u64 R, .int .i64 2] w fun e w' => e = .returned (.string y) ∧ w' = w) : Calls Tryd.prog 22 #[.int .i64 n] w fun e w' => e = .returned (.string ((((⟨#[45]⟩ : ByteArray) ++ x) ++ ⟨#[46]⟩ : ByteArray) ++ y)) ∧ w' = w := by
  go_enter Tryd.func22, Tryd.ntmps22
  go_wp2_with fail
  refine (C1 _).mono ?_
  rintro e w1 ⟨rfl, rfl⟩
  go_wp2_with fail
  refine (C2 _).mono ?_
  rintro e w1 ⟨rfl, rfl⟩
  go_wp2_with fail
  go_ret
  exact ⟨rfl, rfl⟩
theorem rtext_any (n : Int) (h0 : -9223372036854775808 ≤ n) (h1 : n ≤ 9223372036854775807) (w : World) : Calls Tryd.prog 22 #[.int .i64 n] w fun e w' => e = .returned (.string (textM n)) ∧ w' = w := by
  obtain ⟨u, hu⟩ : ∃ u, u = n.natAbs := ⟨_, rfl⟩
  have hub : u ≤ 9223372036854775808 := by omega
  obtain ⟨x, hx⟩ : ∃ x : ByteArray, x = ⟨(Lib.decDigits (u / 100)).toArray⟩ := ⟨_, rfl⟩
  obtain ⟨y, hy⟩ : ∃ y : ByteArray, y = ⟨#[UInt8.ofNat (48 + u % 100 / 10), UInt8.ofNat (48 + u % 100 % 10)]⟩ := ⟨_, rfl⟩
  have sx : x.size ≤ 101 := by rw [hx]; exact dec_bytes (u / 100) 20 (Nat.lt_of_le_of_lt (Nat.le_trans (Nat.div_le_self _ _) hub) (by decide)) (by decide)
  have sy : y.size = 2 := by rw [hy]; rfl
  have C1 := fun w => dig_one (u / 100) (by omega) w
  have C2 := fun w => dig_two (u % 100) (by omega) w
  rw [← hx] at C1
  rw [← hy] at C2
  have e1 : u % 100 / 10 = u / 10 % 10 := by omega
  have e2 : u % 100 % 10 = u % 10 := by omega
  by_cases hn : n < 0
  · have := rtext_neg n (n + 1) (-(n + 1)) (-(n + 1)) (u : Int) (u / 100 : Nat) (u % 100 : Nat) x y w hn (by rw [IntKind.wrap_i64]; omega) (by rw [IntKind.wrap_i64]; omega) (by rw [IntKind.wrap_u64]; omega) (by rw [IntKind.wrap_u64]; omega)
      (by rw [IntKind.wrap_u64, Int.tdiv_eq_ediv_of_nonneg (by omega)]; omega) (by rw [Int.tmod_eq_emod_of_nonneg (by omega)]; omega)
      (fun w => run_string_add_sum (P := Tryd.prog) w _ _ (by show 1 + x.size ≤ 9223372036854775807; omega))
      (fun w => run_string_add_sum (P := Tryd.prog) w _ _ (by rw [ByteArray.size_append]; show 1 + x.size + 1 ≤ 9223372036854775807; omega))
      (fun w => run_string_add_sum (P := Tryd.prog) w _ _ (by rw [ByteArray.size_append, ByteArray.size_append, sy]; show 1 + x.size + 1 + 2 ≤ 9223372036854775807; omega)) C1 C2
    have e : (((⟨#[45]⟩ : ByteArray) ++ x) ++ ⟨#[46]⟩ : ByteArray) ++ y = textM n := by
      apply ba_ext
      rw [textM_list, textL, if_pos hn, ba_app, ba_app, ba_app, hx, hy, e1, e2, ← hu]
      simp [magL]
    rw [e] at this
    exact this
  · have hnu : (u : Int) = n := by omega
    have := rtext_pos n (u / 100 : Nat) (u % 100 : Nat) x y w hn (by rw [IntKind.wrap_u64]; omega)
      (by rw [IntKind.wrap_u64, Int.tdiv_eq_ediv_of_nonneg (by omega)]; omega) (by rw [Int.tmod_eq_emod_of_nonneg (by omega)]; omega)
      (fun w => run_string_add_sum (P := Tryd.prog) w _ _ (by show x.size + 1 ≤ 9223372036854775807; omega))
      (fun w => run_string_add_sum (P := Tryd.prog) w _ _ (by rw [ByteArray.size_append, sy]; show x.size + 1 + 2 ≤ 9223372036854775807; omega)) C1 C2
    have e : (x ++ ⟨#[46]⟩ : ByteArray) ++ y = textM n := by
      apply ba_ext
      rw [textM_list, textL, if_neg hn, ba_app, ba_app, hx, hy, e1, e2, ← hu]
      simp [magL]
    rw [e] at this
    exact this
end Go.Proofs.YtdioaclegmalpaaDoor.Hand
