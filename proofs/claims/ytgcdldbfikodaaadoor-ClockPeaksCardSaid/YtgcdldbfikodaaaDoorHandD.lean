/- The clock's texts by hand: Parse. -/
import Derived.Test.YtgcdldbfikodaaaDoorHandC
import Derived.Test.YtgcdldbfikodaaaDoorPureA
namespace Go.Proofs.YtgcdldbfikodaaaDoor.Hand
open Go.RowKit Go.Sort Go.Lib Go.Proofs.YtgcdldbfikodaaaDoorW.PrintWords Go.Proofs.YtgcdldbfikodaaaDoor.XA

theorem Kept.drewN {z w : World} (h : Kept z w) (n : Nat) : Kept z (w.drewN n) := h.then ⟨rfl, rfl, rfl, Nat.le_refl _, fun _ _ => rfl⟩
theorem cut_k (z : World) (s : ByteArray) (c : UInt8) (w : World) (hs : s.size ≤ 281474976710656) (h : Kept z w) (a b : ByteArray) (f : Bool) (hc : cut1 s c = (a, b, f)) : Calls Tryd.prog 29 #[.string s, .string ⟨#[c]⟩] w fun e w' =>
    e = .returned (.tuple #[.string a, .string b, .bool f]) ∧ Kept z w' :=
  (cut_any s c w (by omega)).mono fun e w' ⟨he, n, hw⟩ => ⟨by rw [he, hc], by rw [hw]; exact h.drewN n⟩

/-- What the parts of a text say: no time's text, or just one. -/
theorem end_bad {s : ByteArray} (h : ∀ t : Nat, t ≤ 2147483648 → textB t = s → False) : ParseEnd s 0 1 :=
  Or.inr ⟨rfl, rfl, fun t h0 h1 e => h t.toNat (by omega) (by rw [← textI_of h0 h1]; exact e)⟩

theorem PuEnd.bounds {B : Nat} {s : ByteArray} {u : Int} {ev : Value} (h : PuEnd B s u ev) : 0 ≤ u ∧ u ≤ ((2 ^ B - 1 : Nat) : Int) := by
  rcases h with ⟨-, n, rfl, h⟩ | ⟨-, h0, h1, -⟩
  · have := Lib.parseUintB_le h
    exact ⟨by omega, by omega⟩
  · have e : ((2 ^ B - 1 : Nat) : Int) = 2 ^ B - 1 := by
      rw [Int.natCast_sub Nat.one_le_two_pow]
      norm_cast
    exact ⟨h0, by rw [e]; exact h1⟩
theorem idx_from : ∀ (l : List ByteArray) (x : ByteArray) (k : Nat), -1 ≤ Lib.idxFromS l x k ∧ Lib.idxFromS l x k < (k : Int) + l.length
  | [], x, k => by
    unfold Lib.idxFromS
    simp
    omega
  | b :: l, x, k => by
    have ih := idx_from l x (k + 1)
    unfold Lib.idxFromS
    rw [List.length_cons]
    split
    · omega
    · omega
theorem idx_bounds (l : List ByteArray) (x : ByteArray) : -1 ≤ Lib.idxOfS l x ∧ Lib.idxOfS l x < l.length := by
  have h := idx_from l x 0
  unfold Lib.idxOfS
  omega
theorem idx_k (z w : World) (wd : ByteArray) (h : Kept z w) : Calls Tryd.prog 30 #[.slice (some ⟨w.heap.size, 0, none⟩) 7 7, .string wd] (w.alloc (.cells #[.string ⟨#[77, 111, 110]⟩, .string ⟨#[84, 117, 101]⟩, .string ⟨#[87, 101, 100]⟩, .string ⟨#[84, 104, 117]⟩, .string ⟨#[70, 114, 105]⟩, .string ⟨#[83, 97, 116]⟩, .string ⟨#[83, 117, 110]⟩] 39)) fun e w' => e = .returned (.int .i64 (Lib.idxOfS nameL wd)) ∧ Kept z w' := by
  refine (Tryd.slices_Index_string w.heap.size 0 7 7 nameL wd _ (by decide) (by decide) ?_).mono fun e w' ⟨he, hw⟩ => ⟨he, by rw [hw]; exact h.then ((Below.refl _ _).alloc (Nat.le_refl _) _)⟩
  intro j hj
  have hb : (w.alloc (.cells #[.string ⟨#[77, 111, 110]⟩, .string ⟨#[84, 117, 101]⟩, .string ⟨#[87, 101, 100]⟩, .string ⟨#[84, 104, 117]⟩, .string ⟨#[70, 114, 105]⟩, .string ⟨#[83, 97, 116]⟩, .string ⟨#[83, 117, 110]⟩] 39)).heap[w.heap.size]? = some (.cells #[.string ⟨#[77, 111, 110]⟩, .string ⟨#[84, 117, 101]⟩, .string ⟨#[87, 101, 100]⟩, .string ⟨#[84, 104, 117]⟩, .string ⟨#[70, 114, 105]⟩, .string ⟨#[83, 97, 116]⟩, .string ⟨#[83, 117, 110]⟩] 39 (0, 0)) := heap_alloc_new w _
  rw [cell_of_row _ w.heap.size (0 + j) _ 39 (0, 0) hb]
  match j, hj with
  | 0, _ => rfl
  | 1, _ => rfl
  | 2, _ => rfl
  | 3, _ => rfl
  | 4, _ => rfl
  | 5, _ => rfl
  | 6, _ => rfl
  | k + 7, h => exact absurd h (by simp [nameL])

set_option maxHeartbeats 4000000 in
set_option maxRecDepth 20000 in
theorem parse_any (z : World) (L : Laid z) (s : ByteArray) (hs : s.size ≤ 281474976710656) (w : World) (hz : Kept z w) : Calls Tryd.prog 11 #[.string s] w fun e w' =>
    ∃ n x, e = .returned (.tuple #[.int .i64 n, .int .i64 x]) ∧ ParseEnd s n x ∧ Kept z w' := by
  obtain ⟨⟨wk, r1, f1⟩, hc1⟩ : ∃ p, p = cut1 s 32 := ⟨_, rfl⟩
  obtain ⟨⟨wd, r2, f2⟩, hc2⟩ : ∃ p, p = cut1 r1 32 := ⟨_, rfl⟩
  obtain ⟨⟨hh, mm, f3⟩, hc3⟩ : ∃ p, p = cut1 r2 58 := ⟨_, rfl⟩
  have z1 := cut1_size s 32
  rw [← hc1] at z1
  have z2 := cut1_size r1 32
  rw [← hc2] at z2
  have z3 := cut1_size r2 58
  rw [← hc3] at z3
  have hP : ∀ t : Nat, t ≤ 2147483648 → textB t = s → Lib.parseUintB 24 wk.data.toList = .ok (t / 10080) ∧ Lib.idxOfS nameL wd = (t % 10080 / 1440 : Nat) ∧ Lib.parseUintB 8 hh.data.toList = .ok (t % 1440 / 60) ∧ Lib.parseUintB 8 mm.data.toList = .ok (t % 60) := by
    intro t ht e
    have p := parts t ht
    rw [e, ← hc1] at p
    dsimp only at p
    rw [← hc2] at p
    dsimp only at p
    rw [← hc3] at p
    exact p
  have C1 := fun w h => cut_k z s 32 w hs h wk r1 f1 hc1.symm
  have C2 := fun w h => cut_k z r1 32 w (by dsimp only at z1; omega) h wd r2 f2 hc2.symm
  have C3 := fun w h => cut_k z r2 58 w (by dsimp only at z1 z2; omega) h hh mm f3 hc3.symm
  have P1 := fun w h => pu24 z L wk (by dsimp only at z1; omega) w h
  have P2 := fun w h => pu8 z L hh (by dsimp only at z1 z2 z3; omega) w h
  have P3 := fun w h => pu8 z L mm (by dsimp only at z1 z2 z3; omega) w h
  clear hc1 hc2 hc3 z1 z2 z3
  have HP := Lib.hid hP
  have HL := Lib.hid L
  have mx := mixed
  obtain ⟨day, hday⟩ : ∃ day, day = Lib.idxOfS nameL wd := ⟨_, rfl⟩
  have HD := Lib.hid hday
  have hdb := idx_bounds nameL wd
  rw [← hday] at hdb
  have hd0 : -1 ≤ day := hdb.1
  have hd1 : day < 7 := hdb.2
  have IX := fun w h => idx_k z w wd h
  rw [← hday] at IX
  clear hP L hdb hday
  go_enter Tryd.func11, Tryd.ntmps11
  go_wp2_with fail
  refine (C1 _ hz).mono ?_
  rintro e w1 ⟨rfl, hz1⟩
  clear C1
  go_wp2_with fail
  refine (C2 _ hz1).mono ?_
  rintro e w2 ⟨rfl, hz2⟩
  clear C2
  go_wp2_with fail
  refine (C3 _ hz2).mono ?_
  rintro e w3 ⟨rfl, hz3⟩
  clear C3
  go_wp2_with fail
  refine (names_k z _ hz3).mono ?_
  rintro e w4 ⟨rfl, hz4⟩
  go_wp2_with fail
  refine (IX _ hz4).mono ?_
  rintro e w5 ⟨rfl, hz5⟩
  clear IX hz1 hz2 hz3 hz4 hz
  go_wp2_with fail
  refine (P1 _ hz5).mono ?_
  rintro e w6 ⟨u, e1, rfl, h1, hz6⟩
  clear P1 hz5
  go_wp2_with fail
  refine (P2 _ hz6).mono ?_
  rintro e w7 ⟨v, e2, rfl, h2, hz7⟩
  clear P2 hz6
  go_wp2_with fail
  refine (P3 _ hz7).mono ?_
  rintro e w8 ⟨x, e3, rfl, h3, hz8⟩
  clear P3 hz7
  obtain ⟨u0, u1⟩ := h1.bounds
  obtain ⟨v0, v1⟩ := h2.bounds
  obtain ⟨x0, x1⟩ := h3.bounds
  have u2 : u ≤ 16777215 := u1
  have v2 : v ≤ 255 := v1
  have x2 : x ≤ 255 := x1
  have a0 : IntKind.i64.wrap u = u := by rw [IntKind.wrap_i64]; omega
  have a1 : IntKind.i64.wrap (u * 10080) = u * 10080 := by rw [IntKind.wrap_i64]; omega
  have a2 : IntKind.i64.wrap (day * 1440) = day * 1440 := by rw [IntKind.wrap_i64]; omega
  have a3 : IntKind.i64.wrap (u * 10080 + day * 1440) = u * 10080 + day * 1440 := by rw [IntKind.wrap_i64]; omega
  have a4 : IntKind.i64.wrap v = v := by rw [IntKind.wrap_i64]; omega
  have a5 : IntKind.i64.wrap (v * 60) = v * 60 := by rw [IntKind.wrap_i64]; omega
  have a6 : IntKind.i64.wrap (u * 10080 + day * 1440 + v * 60) = u * 10080 + day * 1440 + v * 60 := by rw [IntKind.wrap_i64]; omega
  have a7 : IntKind.i64.wrap x = x := by rw [IntKind.wrap_i64]; omega
  obtain ⟨T, hT⟩ : ∃ T, T = u * 10080 + day * 1440 + v * 60 + x := ⟨_, rfl⟩
  have a8 : IntKind.i64.wrap (u * 10080 + day * 1440 + v * 60 + x) = T := by rw [IntKind.wrap_i64]; omega
  clear u0 u1 v0 v1 x0 x1 u2 v2 x2 hd0 hd1
  have HT := Lib.hid hT
  clear hT
  rcases h1 with ⟨rfl, n1, hn1, g1⟩ | ⟨⟨t1, p1, rfl⟩, -, -, g1⟩
  case inr =>
    have E : ParseEnd s 0 1 := end_bad fun t ht e => g1 _ (HP.out t ht e).1
    have HE := Lib.hid E
    clear E g1 h2 h3
    go_wp2_with fail
    go_ret2
    exact ⟨_, _, rfl, HE.out, hz8⟩
  rcases h2 with ⟨rfl, n2, hn2, g2⟩ | ⟨⟨t2, p2, rfl⟩, -, -, g2⟩
  case inr =>
    have E : ParseEnd s 0 1 := end_bad fun t ht e => g2 _ (HP.out t ht e).2.2.1
    have HE := Lib.hid E
    clear E g1 g2 h3 hn1
    go_wp2_with fail
    go_ret2
    exact ⟨_, _, rfl, HE.out, hz8⟩
  rcases h3 with ⟨rfl, n3, hn3, g3⟩ | ⟨⟨t3, p3, rfl⟩, -, -, g3⟩
  case inr =>
    have E : ParseEnd s 0 1 := end_bad fun t ht e => g3 _ (HP.out t ht e).2.2.2
    have HE := Lib.hid E
    clear E g1 g2 g3 hn1 hn2
    go_wp2_with fail
    go_ret2
    exact ⟨_, _, rfl, HE.out, hz8⟩
  by_cases hdn : day < 0
  · have E : ParseEnd s 0 1 := end_bad fun t ht e => by
      have h := (HP.out t ht e).2.1
      rw [← HD.out] at h
      omega
    have HE := Lib.hid E
    clear E g1 g2 g3 hn1 hn2 hn3
    go_wp2_with fail
    go_ret2
    exact ⟨_, _, rfl, HE.out, hz8⟩
  have hN : ∀ t : Nat, t ≤ 2147483648 → textB t = s → T = t := fun t ht e => by
    obtain ⟨p1, p2, p3, p4⟩ := HP.out t ht e
    rw [g1] at p1
    rw [← HD.out] at p2
    rw [g2] at p3
    rw [g3] at p4
    simp only [NumEnd.ok.injEq] at p1 p3 p4
    rw [HT.out, hn1, hn2, hn3, p1, p2, p3, p4]
    omega
  have HN := Lib.hid hN
  clear g1 g2 g3 hn1 hn2 hn3 hN HP
  by_cases hT : 0 ≤ T ∧ T ≤ 2147483648
  · have K := right_any T w8
    rw [show decide (0 ≤ T ∧ T ≤ 2147483648) = true from decide_eq_true hT] at K
    have X := fun w h => text_any z HL.out T w h
    obtain ⟨q, hq⟩ : ∃ q, q = textI T := ⟨_, rfl⟩
    rw [← hq] at X
    by_cases hs' : q = s
    · have E : ParseEnd s T 0 := Or.inl ⟨rfl, hT.1, hT.2, by rw [← hq]; exact hs'⟩
      have HE := Lib.hid E
      have hbq : (q.toList == s.toList) = true := (Lib.bytes_beq_iff _ _).2 hs'
      clear E hq hs' hT
      go_wp2_with fail
      refine K.mono ?_
      rintro e w9 ⟨rfl, hd⟩
      have hz9 := hz8.drawn hd
      clear K hd
      go_wp2_with fail
      refine (X _ hz9).mono ?_
      rintro e w10 ⟨rfl, hz10⟩
      clear X hz9 hz8
      go_wp2_with fail
      go_ret2
      exact ⟨_, _, rfl, HE.out, hz10⟩
    · have E : ParseEnd s 0 1 := end_bad fun t ht e => by
        have h := HN.out t ht e
        refine hs' ?_
        rw [hq, h]
        rw [textI_of (by omega) (by omega), Int.toNat_natCast]
        exact e
      have HE := Lib.hid E
      have hbq : (q.toList == s.toList) = false := (Lib.bytes_beq_false_iff _ _).2 hs'
      clear E hq hs' hT
      go_wp2_with fail
      refine K.mono ?_
      rintro e w9 ⟨rfl, hd⟩
      have hz9 := hz8.drawn hd
      clear K hd
      go_wp2_with fail
      refine (X _ hz9).mono ?_
      rintro e w10 ⟨rfl, hz10⟩
      clear X hz9 hz8
      go_wp2_with fail
      go_ret2
      exact ⟨_, _, rfl, HE.out, hz10⟩
  · have K := right_any T w8
    rw [show decide (0 ≤ T ∧ T ≤ 2147483648) = false from decide_eq_false hT] at K
    have E : ParseEnd s 0 1 := end_bad fun t ht e => by
      have h := HN.out t ht e
      omega
    have HE := Lib.hid E
    clear E hT
    go_wp2_with fail
    refine K.mono ?_
    rintro e w9 ⟨rfl, hd⟩
    have hz9 := hz8.drawn hd
    clear K hd
    go_wp2_with fail
    go_ret2
    exact ⟨_, _, rfl, HE.out, hz9⟩
end Go.Proofs.YtgcdldbfikodaaaDoor.Hand
