/- The document's times as texts: two digits, a number, a time. -/
import Derived.Test.YtgcdldbfikodaaaDoorHandF
namespace Go.Proofs.YtgcdldbfikodaaaDoor.Hand
open Go.RowKit Go.Sort Go.Lib Go.Proofs.YtgcdldbfikodaaaDoorW.PrintWords Go.Proofs.YtgcdldbfikodaaaDoor.XA

def digB (k : Nat) : ByteArray := ⟨#[UInt8.ofNat (48 + k)]⟩
theorem enc_dig (k : Nat) (h : k < 10) : Utf8.encode (48 + (k : Int)) = digB k := by
  match k, h with
  | 0, _ => rfl
  | 1, _ => rfl
  | 2, _ => rfl
  | 3, _ => rfl
  | 4, _ => rfl
  | 5, _ => rfl
  | 6, _ => rfl
  | 7, _ => rfl
  | 8, _ => rfl
  | 9, _ => rfl

set_option maxHeartbeats 2000000 in
set_option maxRecDepth 20000 in
theorem rtwo_walk (n a b A B : Int) (x y : ByteArray) (w : World) (ha : IntKind.i64.wrap (n.tdiv 10) = a) (hb : n.tmod 10 = b)
    (ha' : IntKind.i64.wrap (48 + a) = A) (hb' : IntKind.i64.wrap (48 + b) = B) (ha2 : IntKind.i32.wrap A = A) (hb2 : IntKind.i32.wrap B = B)
    (ex : Utf8.encode A = x) (ey : Utf8.encode B = y) (l0 : ∀ w, (Op.stringOp .add x y).run Tryd.prog w = .ok (.string (x ++ y)) w) : Calls Tryd.prog 33 #[.int .i64 n] w fun e w' => e = .returned (.string (x ++ y)) ∧ w' = w := by
  go_enter Tryd.func33, Tryd.ntmps33
  go_wp2_with fail
  go_ret
  exact ⟨rfl, rfl⟩
theorem rtwo_any (i : Nat) (hi : i < 100) (w : World) : Calls Tryd.prog 33 #[.int .i64 i] w fun e w' => e = .returned (.string (twoB i)) ∧ w' = w := by
  have h := rtwo_walk i (i / 10 : Nat) (i % 10 : Nat) (48 + (i / 10 : Nat)) (48 + (i % 10 : Nat)) (digB (i / 10)) (digB (i % 10)) w
    (by rw [IntKind.wrap_i64, Int.tdiv_eq_ediv_of_nonneg (by omega)]; omega) (by rw [Int.tmod_eq_emod_of_nonneg (by omega)]; omega)
    (by rw [IntKind.wrap_i64]; omega) (by rw [IntKind.wrap_i64]; omega) (by rw [IntKind.wrap_i32]; omega) (by rw [IntKind.wrap_i32]; omega)
    (enc_dig _ (by omega)) (enc_dig _ (by omega)) (fun w => run_string_add_sum (P := Tryd.prog) w _ _ (by show (1 : Nat) + 1 ≤ 9223372036854775807; decide))
  have e : digB (i / 10) ++ digB (i % 10) = twoB i := by
    apply ba_ext
    rw [ba_app, two_list i hi]
    rfl
  rw [e] at h
  exact h

set_option maxHeartbeats 2000000 in
set_option maxRecDepth 20000 in
theorem num_small (n A : Int) (x : ByteArray) (w : World) (hn : n < 10) (ha : IntKind.i64.wrap (48 + n) = A) (ha2 : IntKind.i32.wrap A = A) (ex : Utf8.encode A = x) : Calls Tryd.prog 32 #[.int .i64 n] w fun e w' => e = .returned (.string x) ∧ w' = w := by
  go_enter Tryd.func32, Tryd.ntmps32
  go_wp2_with fail
  go_ret
  exact ⟨rfl, rfl⟩
set_option maxHeartbeats 2000000 in
set_option maxRecDepth 20000 in
theorem num_big (n q b B : Int) (x y : ByteArray) (w : World) (hn : ¬ n < 10) (hq : IntKind.i64.wrap (n.tdiv 10) = q) (hb : n.tmod 10 = b) (hb' : IntKind.i64.wrap (48 + b) = B) (hb2 : IntKind.i32.wrap B = B) (ey : Utf8.encode B = y)
    (l0 : ∀ w, (Op.stringOp .add x y).run Tryd.prog w = .ok (.string (x ++ y)) w)
    (C : ∀ w, Calls Tryd.prog 32 #[.int .i64 q] w fun e w' => e = .returned (.string x) ∧ w' = w) : Calls Tryd.prog 32 #[.int .i64 n] w fun e w' => e = .returned (.string (x ++ y)) ∧ w' = w := by
  go_enter Tryd.func32, Tryd.ntmps32
  go_wp2_with fail
  refine (C _).mono ?_
  rintro e w1 ⟨rfl, rfl⟩
  go_wp2_with fail
  go_ret
  exact ⟨rfl, rfl⟩
theorem num_any (n : Nat) : n ≤ 4000000000 → ∀ w, Calls Tryd.prog 32 #[.int .i64 n] w fun e w' => e = .returned (.string ⟨(Lib.decDigits n).toArray⟩) ∧ w' = w := by
  induction n using Nat.strongRecOn with
  | ind n ih =>
    intro hn w
    by_cases h : n < 10
    · have k := num_small n (48 + (n : Int)) (digB n) w (by omega) (by rw [IntKind.wrap_i64]; omega) (by rw [IntKind.wrap_i32]; omega) (enc_dig n h)
      rw [dec1 n h]
      exact k
    · have k := num_big n (n / 10 : Nat) (n % 10 : Nat) (48 + (n % 10 : Nat)) ⟨(Lib.decDigits (n / 10)).toArray⟩ (digB (n % 10)) w (by omega)
        (by rw [IntKind.wrap_i64, Int.tdiv_eq_ediv_of_nonneg (by omega)]; omega) (by rw [Int.tmod_eq_emod_of_nonneg (by omega)]; omega)
        (by rw [IntKind.wrap_i64]; omega) (by rw [IntKind.wrap_i32]; omega) (enc_dig _ (by omega))
        (fun w => run_string_add_sum (P := Tryd.prog) w _ _ (by
          have := dec_len (n / 10)
          have e1 : (⟨(Lib.decDigits (n / 10)).toArray⟩ : ByteArray).size = (Lib.decDigits (n / 10)).length := by
            show (Lib.decDigits (n / 10)).toArray.size = _
            simp only [List.size_toArray]
          have e2 : (digB (n % 10)).size = 1 := rfl
          rw [e1, e2]
          omega)) (ih (n / 10) (by omega) (by omega))
      have e : (⟨(Lib.decDigits (n / 10)).toArray⟩ : ByteArray) ++ digB (n % 10) = ⟨(Lib.decDigits n).toArray⟩ := by
        apply ba_ext
        rw [ba_app]
        show Lib.decDigits (n / 10) ++ [UInt8.ofNat (48 + n % 10)] = Lib.decDigits n
        conv => rhs; rw [Lib.decDigits, dif_neg h]
      rw [e] at k
      exact k
theorem rright_any (t : Int) (w : World) : Calls Tryd.prog 19 #[.int .i64 t] w fun e w' => e = .returned (.bool (rightS t)) ∧ Drawn0 w w' := fareboxref06_Right.calls t _ w (ref_right_f t)

theorem day_list (d : Nat) (hd : d < 7) : ([.string ⟨#[77, 111, 110]⟩, .string ⟨#[84, 117, 101]⟩, .string ⟨#[87, 101, 100]⟩, .string ⟨#[84, 104, 117]⟩, .string ⟨#[70, 114, 105]⟩, .string ⟨#[83, 97, 116]⟩, .string ⟨#[83, 117, 110]⟩] : List Value)[d]'hd = .string (dayB d) := by
  match d, hd with
  | 0, _ => rfl
  | 1, _ => rfl
  | 2, _ => rfl
  | 3, _ => rfl
  | 4, _ => rfl
  | 5, _ => rfl
  | 6, _ => rfl

set_option maxHeartbeats 2000000 in
set_option maxRecDepth 20000 in
theorem rtext_walk (n D d A B X Y : Int) (a b x y : ByteArray) (w z : World) (hz : Kept z w) 
    (R : ∀ w, Kept z w → Calls Tryd.prog 19 #[.int .i64 n] w fun e w' => e = .returned (.bool true) ∧ Kept z w')
    (q1 : IntKind.i64.wrap (Int.tdiv n 1440) = D) (q2 : D.tmod 7 = d) (hd : 0 ≤ d ∧ d < 7) (hb : b = dayB d.toNat) (q3 : IntKind.i64.wrap (Int.tdiv n 10080) = A) (q4 : IntKind.i64.wrap (Int.tdiv n 60) = B) (q5 : B.tmod 24 = X) (q6 : Int.tmod n 60 = Y)
    (N : ∀ w, Calls Tryd.prog 32 #[.int .i64 A] w fun e w' => e = .returned (.string a) ∧ w' = w)
    (T1 : ∀ w, Calls Tryd.prog 33 #[.int .i64 X] w fun e w' => e = .returned (.string x) ∧ w' = w)
    (T2 : ∀ w, Calls Tryd.prog 33 #[.int .i64 Y] w fun e w' => e = .returned (.string y) ∧ w' = w)
    (l0 : ∀ w, (Op.stringOp .add a ⟨#[32]⟩).run Tryd.prog w = .ok (.string (a ++ ⟨#[32]⟩)) w)
    (l1 : ∀ w, (Op.stringOp .add ((a ++ ⟨#[32]⟩ : ByteArray)) b).run Tryd.prog w = .ok (.string ((a ++ ⟨#[32]⟩ : ByteArray) ++ b)) w)
    (l2 : ∀ w, (Op.stringOp .add (((a ++ ⟨#[32]⟩ : ByteArray) ++ b : ByteArray)) ⟨#[32]⟩).run Tryd.prog w = .ok (.string (((a ++ ⟨#[32]⟩ : ByteArray) ++ b : ByteArray) ++ ⟨#[32]⟩)) w)
    (l3 : ∀ w, (Op.stringOp .add ((((a ++ ⟨#[32]⟩ : ByteArray) ++ b : ByteArray) ++ ⟨#[32]⟩ : ByteArray)) x).run Tryd.prog w = .ok (.string ((((a ++ ⟨#[32]⟩ : ByteArray) ++ b : ByteArray) ++ ⟨#[32]⟩ : ByteArray) ++ x)) w)
    (l4 : ∀ w, (Op.stringOp .add (((((a ++ ⟨#[32]⟩ : ByteArray) ++ b : ByteArray) ++ ⟨#[32]⟩ : ByteArray) ++ x : ByteArray)) ⟨#[58]⟩).run Tryd.prog w = .ok (.string (((((a ++ ⟨#[32]⟩ : ByteArray) ++ b : ByteArray) ++ ⟨#[32]⟩ : ByteArray) ++ x : ByteArray) ++ ⟨#[58]⟩)) w)
    (l5 : ∀ w, (Op.stringOp .add ((((((a ++ ⟨#[32]⟩ : ByteArray) ++ b : ByteArray) ++ ⟨#[32]⟩ : ByteArray) ++ x : ByteArray) ++ ⟨#[58]⟩ : ByteArray)) y).run Tryd.prog w = .ok (.string ((((((a ++ ⟨#[32]⟩ : ByteArray) ++ b : ByteArray) ++ ⟨#[32]⟩ : ByteArray) ++ x : ByteArray) ++ ⟨#[58]⟩ : ByteArray) ++ y)) w) : Calls Tryd.prog 13 #[.int .i64 n] w fun e w' => e = .returned (.string ((((((a ++ ⟨#[32]⟩ : ByteArray) ++ b : ByteArray) ++ ⟨#[32]⟩ : ByteArray) ++ x : ByteArray) ++ ⟨#[58]⟩ : ByteArray) ++ y : ByteArray)) ∧ Kept z w' := by
  have HB := Lib.hid hb
  clear hb
  go_enter Tryd.func13, Tryd.ntmps13
  go_wp2_with fail
  refine (R _ hz).mono ?_
  rintro e w1 ⟨rfl, hz1⟩
  have mx := mixed
  go_wp2_with fail
  have hz2 := hz1.then ((Below.refl _ _).alloc (Nat.le_refl _) (o := Obj.cells #[.string ⟨#[77, 111, 110]⟩, .string ⟨#[84, 117, 101]⟩, .string ⟨#[87, 101, 100]⟩, .string ⟨#[84, 104, 117]⟩, .string ⟨#[70, 114, 105]⟩, .string ⟨#[83, 97, 116]⟩, .string ⟨#[83, 117, 110]⟩] 9))
  have hv := day_list d.toNat (by omega)
  rw [← HB.out] at hv
  generalize (([.string ⟨#[77, 111, 110]⟩, .string ⟨#[84, 117, 101]⟩, .string ⟨#[87, 101, 100]⟩, .string ⟨#[84, 104, 117]⟩, .string ⟨#[70, 114, 105]⟩, .string ⟨#[83, 97, 116]⟩, .string ⟨#[83, 117, 110]⟩] : List Value)[d.toNat]'(show d.toNat < 7 by omega)) = v at hv ⊢
  obtain rfl := hv
  generalize (w1.alloc (Obj.cells #[.string ⟨#[77, 111, 110]⟩, .string ⟨#[84, 117, 101]⟩, .string ⟨#[87, 101, 100]⟩, .string ⟨#[84, 104, 117]⟩, .string ⟨#[70, 114, 105]⟩, .string ⟨#[83, 97, 116]⟩, .string ⟨#[83, 117, 110]⟩] 9)) = w2 at hz2 ⊢
  refine (N _).mono ?_
  rintro e w3 ⟨rfl, rfl⟩
  go_wp2_with fail
  refine (T1 _).mono ?_
  rintro e w3 ⟨rfl, rfl⟩
  go_wp2_with fail
  refine (T2 _).mono ?_
  rintro e w3 ⟨rfl, rfl⟩
  go_wp2_with fail
  go_ret
  exact ⟨rfl, hz2⟩

theorem rtext_any (t : Int) (w z : World) (hz : Kept z w) : Calls Tryd.prog 13 #[.int .i64 t] w fun e w' => e = .returned (.string (textI t)) ∧ Kept z w' := by
  have R := fun w (h : Kept z w) => rright_k z w h t
  by_cases h : 0 ≤ t ∧ t ≤ 2147483648
  · have e : textI t = textB t.toNat := if_pos h
    have er : rightS t = true := decide_eq_true h
    rw [e]
    rw [er] at R
    clear e er
    obtain ⟨n, rfl⟩ : ∃ n : Nat, t = n := ⟨t.toNat, by omega⟩
    rw [Int.toNat_natCast]
    have hn : n ≤ 2147483648 := by omega
    have ha : (⟨(Lib.decDigits (n / 10080)).toArray⟩ : ByteArray).size ≤ 213050 := by
      have := dec_len (n / 10080)
      show (Lib.decDigits (n / 10080)).toArray.size ≤ 213050
      simp only [List.size_toArray]
      omega
    have hx : (twoB (n % 1440 / 60)).size ≤ 70 := two_len _ (by omega)
    have hy : (twoB (n % 60)).size ≤ 70 := two_len _ (by omega)
    have hb := day_size (n % 10080 / 1440) (by omega)
    unfold textB
    refine rtext_walk n (n / 1440 : Nat) (n % 10080 / 1440 : Nat) (n / 10080 : Nat) (n / 60 : Nat) (n % 1440 / 60 : Nat) (n % 60 : Nat) _ _ _ _ w z hz R ?_ ?_ ?_ ?_ ?_ ?_ ?_ ?_ (num_any _ (by omega)) (rtwo_any _ (by omega)) (rtwo_any _ (by omega)) ?_ ?_ ?_ ?_ ?_ ?_
    · rw [IntKind.wrap_i64, Int.tdiv_eq_ediv_of_nonneg (by omega)]; omega
    · rw [Int.tmod_eq_emod_of_nonneg (by omega)]; omega
    · omega
    · rw [Int.toNat_natCast]
    · rw [IntKind.wrap_i64, Int.tdiv_eq_ediv_of_nonneg (by omega)]; omega
    · rw [IntKind.wrap_i64, Int.tdiv_eq_ediv_of_nonneg (by omega)]; omega
    · rw [Int.tmod_eq_emod_of_nonneg (by omega)]; omega
    · rw [Int.tmod_eq_emod_of_nonneg (by omega)]; omega
    all_goals
      intro w
      refine run_string_add_sum (P := Tryd.prog) w _ _ ?_
      simp only [ByteArray.size_append, one_size]
      omega
  · have e : textI t = ⟨#[]⟩ := if_neg h
    have er : rightS t = false := decide_eq_false h
    rw [e]
    rw [er] at R
    clear e er h
    go_enter Tryd.func13, Tryd.ntmps13
    go_wp2_with fail
    refine (R _ hz).mono ?_
    rintro e w1 ⟨rfl, hz1⟩
    go_wp2_with fail
    go_ret
    exact ⟨rfl, hz1⟩
end Go.Proofs.YtgcdldbfikodaaaDoor.Hand
