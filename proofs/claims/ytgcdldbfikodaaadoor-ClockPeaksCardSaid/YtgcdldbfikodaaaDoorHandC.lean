/- The clock's texts by hand: ParseUint at 24 and at 8 bits. -/
import Derived.Test.YtgcdldbfikodaaaDoorHandB
import Derived.Lib.ParseIntBMem
import Derived.Lib.ConvBytes
import Derived.Lib.AtoiErrMem
import Derived.Lib.ParseIntBCases
import Derived.Laws.Strings3
import Derived.Laws.Closers25
import Derived.Laws.Closers25b
import Derived.BigCall
import Derived.BigGuard
namespace Go.Proofs.YtgcdldbfikodaaaDoor.Hand
open Go.RowKit Go.Sort Go.Lib Go.Proofs.YtgcdldbfikodaaaDoorW.PrintWords Go.Proofs.YtgcdldbfikodaaaDoor.XA

/-- How a byte that is no digit ends it. -/
def noNumber : Lib.NumEnd Nat := Lib.parseUintM 0 0 [0]
/-- What the loop holds behind k bytes: the digits so far spell 'acc', and the rest goes on from there. -/
def Run24 (bs : List UInt8) (k : Nat) (a : Int) : Prop := ∃ acc : Nat, a = acc ∧ acc ≤ 16777215 ∧ Lib.parseUintM 16777215 0 bs = Lib.parseUintM 16777215 acc (bs.drop k)
theorem Run24.start (bs : List UInt8) : Run24 bs 0 0 := ⟨0, rfl, by omega, rfl⟩
theorem Run24.bounds {bs : List UInt8} {k : Nat} {a : Int} (h : Run24 bs k a) : 0 ≤ a ∧ a ≤ 16777215 := by
  obtain ⟨acc, rfl, h, -⟩ := h
  omega
theorem drop_at {bs : List UInt8} {k : Nat} (hk : k < bs.length) : bs.drop k = bs[k] :: bs.drop (k + 1) := List.drop_eq_getElem_cons hk
theorem Run24.next {bs : List UInt8} {k : Nat} {a : Int} (h : Run24 bs k a) (hk : k < bs.length) (h0 : 48 ≤ bs[k].toNat) (h1 : bs[k].toNat ≤ 57) (hv : a * 10 + ((bs[k].toNat : Int) - 48) ≤ 16777215) :
    Run24 bs (k + 1) (a * 10 + ((bs[k].toNat : Int) - 48)) := by
  obtain ⟨acc, rfl, ha, e⟩ := h
  refine ⟨acc * 10 + (bs[k].toNat - 48), by omega, by omega, ?_⟩
  rw [e, drop_at hk, Lib.parseUintM, if_pos ⟨h0, h1⟩, if_neg (by omega), if_neg (by omega)]
theorem Run24.over {bs : List UInt8} {k : Nat} {a : Int} (h : Run24 bs k a) (hk : k < bs.length) (h0 : 48 ≤ bs[k].toNat) (h1 : bs[k].toNat ≤ 57) (hv : 16777215 < a * 10 + ((bs[k].toNat : Int) - 48)) :
    Lib.parseUintM 16777215 0 bs = .range := by
  obtain ⟨acc, rfl, ha, e⟩ := h
  rw [e, drop_at hk, Lib.parseUintM, if_pos ⟨h0, h1⟩, if_neg (by omega), if_pos (by omega)]
theorem Run24.bad {bs : List UInt8} {k : Nat} {a : Int} (h : Run24 bs k a) (hk : k < bs.length) (hb : ¬ (48 ≤ bs[k].toNat ∧ bs[k].toNat ≤ 57)) : Lib.parseUintM 16777215 0 bs = noNumber := by
  obtain ⟨acc, rfl, ha, e⟩ := h
  rw [e, drop_at hk, Lib.parseUintM, if_neg hb]
  rfl
theorem Run24.ends {bs : List UInt8} {a : Int} (h : Run24 bs bs.length a) : ∃ acc : Nat, a = acc ∧ Lib.parseUintM 16777215 0 bs = .ok acc := by
  obtain ⟨acc, rfl, ha, e⟩ := h
  refine ⟨acc, rfl, ?_⟩
  rw [e, List.drop_length, Lib.parseUintM]

set_option maxHeartbeats 16000000 in
set_option maxRecDepth 100000 in
theorem inner24_ne (t : ByteArray) (hne : t.size ≠ 0) (hmax : t.size ≤ 9223372036854775806) (w : World) :
    Calls Tryd.prog 41 #[.string t, .int .i64 10, .int .i64 24] w fun e w' => e = .returned (Lib.uintTupleM 57 16777215 (Lib.parseUintM 16777215 0 t.data.toList)) ∧ w' = Lib.bytesWorld w 5 t := by
  have hemp : t.toList.isEmpty = false := by
    rw [← decide_eq_emptyBytes]
    exact decide_eq_false (fun h => hne (by rw [h]; rfl))
  have hcv := Lib.run_convert_string_bytes (P := Tryd.prog) w 9 60 5 t (u := .string) Tryd.underlying9 Tryd.underlying60 Tryd.underlying5
  have hB : ∀ j, j < t.size → (Lib.bytesWorld w 5 t).cell? ⟨w.heap.size, j, none⟩ = some (.int .u8 (t.data.toList.getD j 0).toNat) := fun j hj => Lib.bytesWorld_cell w 5 t j hj
  obtain ⟨W1, hW1⟩ : ∃ W1, W1 = Lib.bytesWorld w 5 t := ⟨_, rfl⟩
  rw [← hW1] at hcv hB ⊢
  clear hW1
  obtain ⟨bs, hL⟩ : ∃ bs, bs = t.data.toList := ⟨_, rfl⟩
  have hLn : bs.length = t.size := by rw [hL, Lib.size_eq]
  rw [← hL] at hB ⊢
  clear hL
  have hmv : IntKind.u64.wrap (IntKind.u64.wrap 16777216 - 1) = 16777215 := by
    rw [IntKind.wrap_u64, IntKind.wrap_u64]
    decide
  have mx := mixed
  go_enter Tryd.func41, Tryd.ntmps41
  go_wp2
  go_loop [12, 13, 101] (fun vu vn vi => ∃ (k : Nat) (a : Int), vu = .bool false ∧ vn = .int .u64 a ∧ vi = .int .i64 k ∧ k ≤ t.size ∧ Hid (Run24 bs k a))
    (fun _ _ vi => t.size - (RowKit.intOf vi).toNat)
  case atStart => exact ⟨0, 0, rfl, rfl, rfl, by omega, Lib.hid (Run24.start bs)⟩
  case round =>
    obtain ⟨k, a, rfl, rfl, rfl, hk, hh⟩ := hrel
    have R := hh.out
    clear hh
    obtain ⟨a0, a1⟩ := R.bounds
    by_cases hkn : k < t.size
    · have hkl : k < bs.length := by omega
      have hc := hB k hkn
      have hget : bs.getD k 0 = bs[k]'hkl := by simp [List.getD, List.getElem?_eq_getElem hkl]
      rw [hget] at hc
      have N1 := fun h0 h1 hv => Lib.hid (R.next hkl h0 h1 hv)
      have N2 := fun h0 h1 hv => R.over hkl h0 h1 hv
      have N3 := fun hb => R.bad hkl hb
      clear hB hget R
      generalize bs[k]'hkl = c at hc N1 N2 N3
      have hc256 : c.toNat < 256 := c.toNat_lt
      by_cases hdig : 48 ≤ c.toNat ∧ c.toNat ≤ 57
      · obtain ⟨hd0, hd1⟩ := hdig
        by_cases hov : 16777215 < a * 10 + ((c.toNat : Int) - 48)
        · have hdec := N2 hd0 hd1 hov
          clear N1 N2 N3
          go_wp2
          go_ret2
          first | exact ⟨by rw [hdec]; rfl, rfl⟩ | exact ⟨rfl, rfl⟩
        · have iov : a * 10 + ((c.toNat : Int) - 48) ≤ 16777215 := by omega
          have HN := N1 hd0 hd1 iov
          clear N1 N2 N3 hov
          go_wp2
          refine ⟨⟨k + 1, a * 10 + ((c.toNat : Int) - 48), rfl, (by first | rfl | (congr 1; omega)), (by first | rfl | (congr 1; omega)), by omega, HN⟩, by simp [RowKit.intOf]; omega⟩
      · have hdec := N3 hdig
        clear N1 N2 N3
        have hv0 := bits_lo_u8 .or (c.toNat : Int) 32
        have hv1 := bits_hi_u8 .or (c.toNat : Int) 32
        have hu0 := bits_lo_u8 .or 95 32
        have hu1 := bits_hi_u8 .or 95 32
        go_wp2_with (go_at_call 46; refine (Tryd.internal_strconv_lower _ _).mono ?_; rintro e w' ⟨rfl, rfl⟩)
        all_goals go_ret2
        all_goals first | exact ⟨by rw [hdec]; rfl, rfl⟩ | exact ⟨rfl, rfl⟩
    · have hkk : k = t.size := by omega
      subst hkk
      rw [← hLn] at R
      obtain ⟨acc, rfl, hdec⟩ := R.ends
      clear R a0 a1
      go_wp2
      go_ret2
      first | exact ⟨by rw [hdec]; rfl, rfl⟩ | exact ⟨rfl, rfl⟩

theorem inner24 (t : ByteArray) (hmax : t.size ≤ 9223372036854775806) (w : World) :
    Calls Tryd.prog 41 #[.string t, .int .i64 10, .int .i64 24] w fun e w' => e = .returned (Lib.uintTupleM 57 16777215 (Lib.parseUintB 24 t.data.toList)) ∧ Below w.heap.size w w' := by
  by_cases h0 : t.size = 0
  · have ht : t = ⟨#[]⟩ := by
      apply ByteArray.ext
      exact Array.eq_empty_of_size_eq_zero h0
    subst ht
    exact (Tryd.internal_strconv_ParseUint_empty 10 24 w).mono fun e w' ⟨he, hw⟩ => ⟨he, by rw [hw]; exact Below.refl _ _⟩
  · have hne : t.data.toList ≠ [] := fun h => h0 (by rw [Lib.size_eq, h]; rfl)
    refine (inner24_ne t h0 hmax w).mono fun e w' ⟨he, hw⟩ => ⟨?_, by rw [hw]; exact Lib.bytesWorld_below _ _ _⟩
    rw [he, Lib.parseUintB, if_neg hne, show (2 : Nat) ^ 24 - 1 = 16777215 by decide]
theorem inner8 (t : ByteArray) (hmax : t.size ≤ 9223372036854775806) (w : World) :
    Calls Tryd.prog 41 #[.string t, .int .i64 10, .int .i64 8] w fun e w' => e = .returned (Lib.uintTupleM 57 255 (Lib.parseUintB 8 t.data.toList)) ∧ Below w.heap.size w w' :=
  (Tryd.internal_strconv_ParseUint_10_at8 t hmax w).mono fun e w' ⟨he, hw⟩ => ⟨he, by
    rcases hw with hw | hw
    · rw [hw]; exact Below.refl _ _
    · rw [hw]; exact Lib.bytesWorld_below _ _ _⟩

/-- What ParseUint hands back: a number and nil, or an error. -/
def PuEnd (B : Nat) (s : ByteArray) (u : Int) (ev : Value) : Prop :=
  (ev = .nilIface ∧ ∃ n : Nat, u = n ∧ Lib.parseUintB B s.data.toList = .ok n) ∨ ((∃ t p, ev = .iface t p) ∧ 0 ≤ u ∧ u ≤ 2 ^ B - 1 ∧ ∀ n, Lib.parseUintB B s.data.toList ≠ .ok n)

set_option maxRecDepth 20000 in
theorem pu_gen (z : World) (L : Laid z) (B : Nat) (b M : Int) (hM0 : 0 ≤ M) (hM : M ≤ 2 ^ B - 1) (s : ByteArray) (hs : s.size ≤ 281474976710656) (w : World) (hz : Kept z w)
    (inner : Calls Tryd.prog 41 #[.string s, .int .i64 10, .int .i64 b] w fun e w' => e = .returned (Lib.uintTupleM 57 M (Lib.parseUintB B s.data.toList)) ∧ Below w.heap.size w w') :
    Calls Tryd.prog 31 #[.string s, .int .i64 10, .int .i64 b] w fun e w' => ∃ u ev, e = .returned (.tuple #[.int .u64 u, ev]) ∧ PuEnd B s u ev ∧ Kept z w' := by
  cases h : Lib.parseUintB B s.data.toList
  case ok n =>
    rw [h] at inner
    have E : PuEnd B s n .nilIface := Or.inl ⟨rfl, n, rfl, h⟩
    have KE := Lib.hid E
    clear E h L
    go_enter Tryd.func31, Tryd.ntmps31
    go_wp2_with fail
    refine inner.mono ?_
    rintro e w1 ⟨rfl, hb⟩
    have hz1 := hz.then hb
    clear inner
    unfold Lib.uintTupleM
    go_wp2_with fail
    go_ret2
    exact ⟨_, _, rfl, KE.out, hz1⟩
  case range =>
    rw [h] at inner
    have E : ∀ t p, PuEnd B s M (.iface t p) := fun t p => Or.inr ⟨⟨t, p, rfl⟩, hM0, hM, fun n hn => by rw [h] at hn; cases hn⟩
    have KE := Lib.hid E
    obtain ⟨tv, pv, hv⟩ := L.ran
    have T := fun w' (hb : Kept z w') => Tryd.strconv_toError_range ⟨#[80, 97, 114, 115, 101, 85, 105, 110, 116]⟩ s 10 b _ w' hs (cell_below hb (cell_lt hv) hv) (Or.inr ⟨_, _, rfl⟩)
    clear E h hv
    clear L
    go_enter Tryd.func31, Tryd.ntmps31
    go_wp2_with fail
    refine inner.mono ?_
    rintro e w1 ⟨rfl, hb⟩
    have hz1 := hz.then hb
    clear inner hb
    unfold Lib.uintTupleM
    go_wp2_with fail
    refine (T _ hz1).mono ?_
    rintro e w2 ⟨N, rfl, -, -, hb2⟩
    have hz2 := hz1.then hb2
    clear T hb2
    go_wp2_with fail
    go_ret2
    exact ⟨_, _, rfl, KE.out _ _, hz2⟩
  rw [h] at inner
  have E : ∀ t p, PuEnd B s 0 (.iface t p) := fun t p => Or.inr ⟨⟨t, p, rfl⟩, by omega, by omega, fun n hn => by rw [h] at hn; cases hn⟩
  have KE := Lib.hid E
  obtain ⟨tv, pv, hv⟩ := L.syn
  have T := fun w' (hb : Kept z w') => Tryd.strconv_toError_syntax ⟨#[80, 97, 114, 115, 101, 85, 105, 110, 116]⟩ s 10 b _ w' hs (cell_below hb (cell_lt hv) hv) (Or.inr ⟨_, _, rfl⟩)
  clear E h hv
  clear L
  go_enter Tryd.func31, Tryd.ntmps31
  go_wp2_with fail
  refine inner.mono ?_
  rintro e w1 ⟨rfl, hb⟩
  have hz1 := hz.then hb
  clear inner hb
  unfold Lib.uintTupleM
  go_wp2_with fail
  refine (T _ hz1).mono ?_
  rintro e w2 ⟨N, rfl, -, -, hb2⟩
  have hz2 := hz1.then hb2
  clear T hb2
  go_wp2_with fail
  go_ret2
  exact ⟨_, _, rfl, KE.out _ _, hz2⟩

theorem pu24 (z : World) (L : Laid z) (s : ByteArray) (hs : s.size ≤ 281474976710656) (w : World) (hz : Kept z w) :
    Calls Tryd.prog 31 #[.string s, .int .i64 10, .int .i64 24] w fun e w' => ∃ u ev, e = .returned (.tuple #[.int .u64 u, ev]) ∧ PuEnd 24 s u ev ∧ Kept z w' :=
  pu_gen z L 24 24 16777215 (by omega) (by omega) s hs w hz (inner24 s (by omega) w)
theorem pu8 (z : World) (L : Laid z) (s : ByteArray) (hs : s.size ≤ 281474976710656) (w : World) (hz : Kept z w) :
    Calls Tryd.prog 31 #[.string s, .int .i64 10, .int .i64 8] w fun e w' => ∃ u ev, e = .returned (.tuple #[.int .u64 u, ev]) ∧ PuEnd 8 s u ev ∧ Kept z w' :=
  pu_gen z L 8 8 255 (by omega) (by omega) s hs w hz (inner8 s (by omega) w)
end Go.Proofs.YtgcdldbfikodaaaDoor.Hand
