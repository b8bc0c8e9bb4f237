/- An amount in words, walked. -/
import Derived.Test.YtdioaclegmalpaaDoorPureA
namespace Go.Proofs.YtdioaclegmalpaaDoor.Hand
open Go.RowKit Go.Sort Go.Lib Go.Proofs.YtdioaclegmalpaaDoorW.PrintWords Go.Proofs.YtdioaclegmalpaaDoor.XA

def szOf : Value → Nat
  | .string s => s.size
  | _ => 0
/-- The digits with k noughts ahead. -/
def Pad (D : List UInt8) (r : ByteArray) : Prop := ∃ k, r.data.toList = List.replicate k 48 ++ D ∧ (k = 0 ∨ k + D.length ≤ 3)
theorem Pad.size {D : List UInt8} {r : ByteArray} (h : Pad D r) : r.size ≤ D.length + 3 := by
  obtain ⟨k, h, hk⟩ := h
  rw [Lib.size_eq, h]
  simp
  omega
theorem Pad.next {D : List UInt8} {r : ByteArray} (h : Pad D r) (hr : r.size < 3) : Pad D ((⟨#[48]⟩ : ByteArray) ++ r) := by
  obtain ⟨k, h, hk⟩ := h
  have hz : r.size = k + D.length := by rw [Lib.size_eq, h]; simp
  refine ⟨k + 1, ?_, Or.inr (by omega)⟩
  rw [ba_app, h]
  rfl
theorem Pad.done {u : Nat} {r : ByteArray} (h : Pad (Lib.decDigits u) r) (hr : ¬ r.size < 3) : r.data.toList = padL u := by
  obtain ⟨k, h, hk⟩ := h
  have hz : r.size = k + (Lib.decDigits u).length := by rw [Lib.size_eq, h]; simp
  rw [h, ← pad_dec]
  congr 2
  omega

theorem itoa_k (z : World) (L : Laid z) (n : Int) (h0 : -9223372036854775808 ≤ n) (h1 : n ≤ 9223372036854775807) (w : World) (h : Kept z w) : Calls Tryd.prog 38 #[.int .i64 n] w fun e w' => e = .returned (.string ⟨(Lib.itoa n).toArray⟩) ∧ Kept z w' :=
  (Tryd.strconv_Itoa n h0 h1 w (h.laid L).tab).mono fun e w' ⟨he, k, os, hw⟩ => ⟨he, by rw [hw]; exact h.then (Lib.below_grow _ _ (Nat.le_refl _) _ _)⟩
theorem prefix_k (z : World) (n : Int) (w : World) (h : Kept z w) : Calls Tryd.prog 39 #[.string ⟨(Lib.itoa n).toArray⟩, .string ⟨#[45]⟩] w fun e w' => e = .returned (.tuple #[.string ⟨(Lib.decDigits n.natAbs).toArray⟩, .bool (decide (n < 0))]) ∧ Kept z w' := by
  refine (Tryd.strings_CutPrefix _ _ w).mono fun e w' ⟨he, hw⟩ => ⟨?_, by rw [hw]; exact h⟩
  rw [he]
  show Ending.returned (.tuple #[.string ⟨(Lib.trimPrefix (Lib.itoa n) [45]).toArray⟩, .bool (Lib.hasPrefix (Lib.itoa n) [45])]) = _
  by_cases hn : n < 0
  · have e1 : Lib.itoa n = 45 :: Lib.decDigits n.natAbs := if_pos hn
    have e2 : Lib.hasPrefix (45 :: Lib.decDigits n.natAbs) [45] = true := by simp [Lib.hasPrefix]
    rw [e1, Lib.trimPrefix, e2, if_pos rfl, decide_eq_true hn]
    rfl
  · have e1 : Lib.itoa n = Lib.decDigits n.natAbs := by rw [Lib.itoa, if_neg hn, show n.toNat = n.natAbs by omega]
    have e2 : Lib.hasPrefix (Lib.decDigits n.natAbs) [45] = false := by
      cases hd : Lib.decDigits n.natAbs with
      | nil => exact absurd hd (dec_ne _)
      | cons c r =>
        have hc := (dec_mem n.natAbs c (by rw [hd]; exact List.mem_cons_self ..)).1
        simp [Lib.hasPrefix, List.isPrefixOf]
        intro h
        rw [← h] at hc
        exact absurd hc (by decide)
    rw [e1, Lib.trimPrefix, e2, if_neg (by decide), decide_eq_false hn]

set_option maxHeartbeats 4000000 in
set_option maxRecDepth 20000 in
theorem text_any (z : World) (L : Laid z) (n : Int) (h0 : -9223372036854775808 ≤ n) (h1 : n ≤ 9223372036854775807) (w : World) (hz : Kept z w) : Calls Tryd.prog 19 #[.int .i64 n] w fun e w' => e = .returned (.string (textM n)) ∧ Kept z w' := by
  have I := fun w h => itoa_k z L n h0 h1 w h
  have P := fun w h => prefix_k z n w h
  have h20 := dec_20 n.natAbs (by omega)
  obtain ⟨D, hD⟩ : ∃ D, D = Lib.decDigits n.natAbs := ⟨_, rfl⟩
  obtain ⟨s0, hs0⟩ : ∃ s0 : ByteArray, s0 = ⟨D.toArray⟩ := ⟨_, rfl⟩
  have p0 : Pad D s0 := ⟨0, by rw [hs0]; rfl, Or.inl rfl⟩
  rw [← hD] at h20 P
  rw [← hs0] at P
  generalize (⟨(Lib.itoa n).toArray⟩ : ByteArray) = q at I P
  have HD := Lib.hid hD
  have HP0 := Lib.hid p0
  have H20 := Lib.hid h20
  clear L hD hs0 p0 h0 h1 h20
  obtain ⟨neg, hneg⟩ : ∃ b, b = decide (n < 0) := ⟨_, rfl⟩
  rw [← hneg] at P
  have HN := Lib.hid hneg
  clear hneg
  go_enter Tryd.func19, Tryd.ntmps19
  go_wp2_with fail
  refine (I _ hz).mono ?_
  rintro e w1 ⟨rfl, hz1⟩
  clear I
  go_wp2_with fail
  refine (P _ hz1).mono ?_
  rintro e w2 ⟨rfl, hz2⟩
  clear P hz hz1
  go_wp2_with fail
  go_loop [3] (fun v => ∃ r : ByteArray, v = .string r ∧ Hid (Pad D r)) (fun v => 3 - szOf v)
  case atStart => exact ⟨s0, rfl, HP0⟩
  case round =>
    obtain ⟨r, rfl, hr⟩ := hrel
    have hrs := Nat.le_trans hr.out.size (Nat.add_le_add_right H20.out 3)
    by_cases hlt : r.size < 3
    · have hlt' : (r.size : Int) < 3 := by omega
      have l0 := fun w => run_string_add_sum (P := Tryd.prog) w ⟨#[48]⟩ r (show 1 + r.size ≤ 9223372036854775807 by omega)
      have HQ := Lib.hid (hr.out.next hlt)
      clear hlt hrs
      go_wp2_with fail
      refine ⟨⟨_, rfl, HQ⟩, ?_⟩
      show 3 - ((⟨#[48]⟩ : ByteArray) ++ r).size < 3 - r.size
      rw [ByteArray.size_append]
      have e1 : (⟨#[48]⟩ : ByteArray).size = 1 := rfl
      omega
    · have hlt' : ¬ (r.size : Int) < 3 := by omega
      have hl : r.data.toList = padL n.natAbs := by
        have h := hr.out
        rw [HD.out] at h
        exact h.done hlt
      obtain ⟨k2, hk2⟩ : ∃ k2 : Nat, k2 = r.size - 2 := ⟨_, rfl⟩
      have p1 : IntKind.i64.wrap ((r.size : Int) - 2) = (k2 : Int) := by rw [IntKind.wrap_i64]; omega
      have b1 : (0 : Int) ≤ (k2 : Int) := by omega
      have b2 : (k2 : Int) ≤ (r.size : Int) := by omega
      obtain ⟨x, hx⟩ : ∃ x : ByteArray, x = r.extract 0 k2 := ⟨_, rfl⟩
      obtain ⟨y, hy⟩ : ∃ y : ByteArray, y = r.extract k2 r.size := ⟨_, rfl⟩
      have sx : x.size ≤ 23 := by rw [hx, ByteArray.size_extract]; omega
      have sy : y.size ≤ 23 := by rw [hy, ByteArray.size_extract]; omega
      have l0 := fun w => run_string_add_sum (P := Tryd.prog) w x ⟨#[46]⟩ (show x.size + 1 ≤ 9223372036854775807 by omega)
      have l1 := fun w => run_string_add_sum (P := Tryd.prog) w (x ++ ⟨#[46]⟩ : ByteArray) y (by rw [ByteArray.size_append]; show x.size + 1 + y.size ≤ _; omega)
      have l2 := fun w => run_string_add_sum (P := Tryd.prog) w ⟨#[45]⟩ ((x ++ ⟨#[46]⟩ : ByteArray) ++ y : ByteArray) (by rw [ByteArray.size_append, ByteArray.size_append]; show 1 + (x.size + 1 + y.size) ≤ _; omega)
      have hres : textM n = if neg then (⟨#[45]⟩ : ByteArray) ++ ((x ++ ⟨#[46]⟩ : ByteArray) ++ y : ByteArray) else ((x ++ ⟨#[46]⟩ : ByteArray) ++ y : ByteArray) := by
        have ex : x.data.toList = Lib.decDigits (n.natAbs / 100) := by
          rw [hx, Lib.extract_eq, hl, ← pad_take, hk2, Lib.size_eq, hl]
          simp
        have ey : y.data.toList = [UInt8.ofNat (48 + n.natAbs / 10 % 10), UInt8.ofNat (48 + n.natAbs % 10)] := by
          rw [hy, Lib.extract_eq, ← pad_drop, hl, hk2, Lib.size_eq, hl]
          rw [List.take_of_length_le (by rw [List.length_drop]; omega)]
        apply ba_ext
        rw [textM_list, textL, HN.out]
        by_cases h : n < 0
        · rw [if_pos h, if_pos (decide_eq_true h), ba_app, ba_app, ba_app, ex, ey]
          simp [magL]
        · rw [if_neg h, if_neg (by simpa using h), ba_app, ba_app, ex, ey]
          simp [magL]
      have HRES := Lib.hid hres
      have hx0 := hx.symm
      have hy0 := hy.symm
      clear hl hres sx sy hrs hk2 hx hy hlt
      have mx := mixed
      go_wp2_with fail
      go_quiet (fail)
      have hz3 := hz2.drewN nq
      generalize w2.drewN nq = w3 at hz3 ⊢
      clear hx0 hy0 l0 l1 hz2
      generalize ((x ++ ⟨#[46]⟩ : ByteArray) ++ y : ByteArray) = q2 at l2 HRES ⊢
      clear HN
      cases neg
      · go_wp2_with fail
        go_ret
        exact ⟨by rw [HRES.out]; rfl, hz3⟩
      · go_wp2_with fail
        go_ret
        exact ⟨by rw [HRES.out]; rfl, hz3⟩
end Go.Proofs.YtdioaclegmalpaaDoor.Hand
