/- fareboxref22's Book by hand: a row of accounts behind a pointer: place, Account, Debt. -/
import Derived.Test.YtbfpggghcdfghaaPureC
import Derived.Test.YtbfpggghcdfghaaHandK
import Derived.Test.YtbfpggghcdfghaaHandI
namespace Go.Proofs.Ytbfpggghcdfghaa.Hand
open Go.RowKit Go.Maps Go.Sort Go.Proofs.YtbfpggghcdfghaaW.PrintWords Go.Proofs.Ytbfpggghcdfghaa.PA

/-- The document's book in memory. -/
def Rb (w : World) (r base : Nat) (m : List Acct) : Prop := ∃ v, Blk w r 52 #[v] ∧ w.ownsRow base 33 3 v m.length (m.flatMap encA)
theorem Rb.opened {w : World} {r base : Nat} {m : List Acct} (h : Rb w r base m) : ∃ A c, Blk w r 52 #[.slice A m.length c] ∧ m.length ≤ c ∧ kAc.C w A m.length m ∧ w.ownsRow base 33 3 (.slice A m.length c) m.length (m.flatMap encA) := by
  obtain ⟨v, h1, h2⟩ := h
  obtain ⟨A, c, rfl, hc, hC⟩ := C_all (d := kAc) kAc_mk rfl h2
  exact ⟨A, c, h1, hc, hC, h2⟩
theorem Rb.drewN {w : World} {r base : Nat} {m : List Acct} (h : Rb w r base m) (n : Nat) : Rb (w.drewN n) r base m := h
theorem less_str (a b : ByteArray) : Op.bytesLess a.toList b.toList = decide (lt a b) := by rw [less_eq, toL_eq, toL_eq]; exact decide_eq_decide.2 (lt_iff a b).symm
theorem eq_str (a b : ByteArray) : (a.toList == b.toList) = decide (a = b) := by
  by_cases h : a = b
  · subst h; simp
  · rw [decide_eq_false h, beq_eq_false_iff_ne, toL_eq, toL_eq]
    exact fun e => h (toL_inj e)
set_option maxRecDepth 20000 in
theorem place_any (r base : Nat) (m : List Acct) (t : ByteArray) (w : World) (hB : Rb w r base m) (hr : Rise m) :
    Calls Try.prog 36 #[.pointer (some ⟨r, 0, none⟩), .string t] w fun e w' => ∃ K : Nat, e = .returned (.tuple #[.int .i64 K, .bool (isS m t)]) ∧ Stand m t K ∧ ∃ n, w' = w.drewN n := by
  obtain ⟨A, c, hblk, hc, hC, _⟩ := hB.opened
  have x0 : w.cell? ⟨r, 0, none⟩ = some (.slice A m.length c) := hblk.cell 0
  have hlm : m.length ≤ 9223372036854775807 := hC.2.1
  have HC := Lib.hid hC
  have HRi := Lib.hid hr
  clear hblk hC hB hr
  go_enter Try.func36, Try.ntmps36
  go_wp2
  go_loop [6] (fun i => ∃ k : Nat, k ≤ m.length ∧ i = .int .i64 k ∧ Hid (∀ x ∈ m.take k, lt x.1 t)) (fun i => m.length - (intOf i).toNat)
  case atStart => exact ⟨0, Nat.zero_le _, rfl, place_zero m t⟩
  case round =>
    obtain ⟨k, hk, rfl, hlow⟩ := hrel
    by_cases hlt : k < m.length
    · obtain ⟨ad, e0, hx0, _, _⟩ := at_ac HC.out hlt
      subst e0
      obtain ⟨x, hxe⟩ : ∃ x, x = m[k] := ⟨_, rfl⟩
      rw [← hxe] at hx0
      have hls := less_str x.1 t
      have hkl : (k : Int) < (m.length : Int) := by omega
      by_cases hl : lt x.1 t
      · rw [decide_eq_true hl] at hls
        have HN := Lib.hid (place_next hlow.out hlt (by rw [← hxe]; exact hl))
        clear hl hxe
        go_wp2
        go_round
        case rel => exact ⟨k + 1, by omega, by go_num, HN.out⟩
        case measure => simp [intOf]; omega
      · rw [decide_eq_false hl] at hls
        have HP := Lib.hid (show Stand m t k from ⟨hk, hlow.out, fun _ => by rw [← hxe]; exact hl⟩)
        have he := eq_str x.1 t
        have hi : isS m t = decide (x.1 = t) := by
          rw [Bool.eq_iff_iff, HP.out.is HRi.out, decide_eq_true_eq]
          exact ⟨fun ⟨_, h⟩ => by rw [hxe]; exact h, fun h => ⟨hlt, by rw [← hxe]; exact h⟩⟩
        have HI := Lib.hid hi
        rw [← hi] at he
        clear hl hxe hi hlow
        go_wp2_with fail
        go_quiet (fail)
        go_wp2
        go_ret2
        exact ⟨k, by first | rfl | (rw [HI.out]; rfl), HP.out, nq, rfl⟩
    · have hkm : k = m.length := by omega
      have HP := Lib.hid (show Stand m t k from ⟨hk, hlow.out, fun h => absurd h hlt⟩)
      have hi : isS m t = false := by
        cases h : isS m t with
        | false => rfl
        | true => obtain ⟨h1, _⟩ := (HP.out.is HRi.out).1 h; exact absurd h1 hlt
      have HI := Lib.hid hi
      have hkl : decide ((k : Int) < (m.length : Int)) = false := decide_eq_false (by omega)
      clear hlow hi hkm
      go_wp2_with fail
      go_quiet (fail)
      go_wp2
      go_ret2
      exact ⟨k, by first | rfl | (rw [HI.out]; rfl), HP.out, nq, rfl⟩
theorem grown_drewN (w : World) (n : Nat) (row : Option Nat) : w.grownBy (w.drewN n) row := ⟨rfl, rfl, rfl, Nat.le_refl _, fun _ _ _ => rfl⟩
theorem Rb.kept {w w' : World} {r base : Nat} {m : List Acct} (h : Rb w r base m) (hg : w.grownBy w' none) : Rb w' r base m := by
  obtain ⟨v, h1, h2⟩ := h
  exact ⟨v, h1.grown hg (by simp), own_step h2 hg⟩
theorem grown_set {w w1 : World} (h : w.grownBy w1 none) {p : Addr} (hp : w.heap.size ≤ p.block) (u : Value) : w.grownBy (w1.setCell p u) none :=
  ⟨h.os, h.tape, h.output, by simpa [World.setCell] using h.size, fun k hk hn => (Below.heap_setCell w1 p u k (by omega)).trans (h.block k hk hn)⟩
/-- What Account answers, in either book. -/
def AcctPost (w : World) (m : List Acct) (t : ByteArray) (e : Ending) (w' : World) : Prop :=
  e = .returned (.tuple #[.agg #[.string (tokS m t), .int .i64 (chS m t), .int .i64 (paS m t)], .bool (isS m t)]) ∧ w.grownBy w' none
set_option maxRecDepth 20000 in
theorem refaccount_any (r base : Nat) (m : List Acct) (t : ByteArray) (w : World) (hB : Rb w r base m) (hr : Rise m) :
    Calls Try.prog 27 #[.pointer (some ⟨r, 0, none⟩), .string t] w (AcctPost w m t) := by
  have HB := Lib.hid hB
  have HR := Lib.hid hr
  clear hB hr
  go_enter Try.func27, Try.ntmps27
  go_wp2_with fail
  refine (place_any r base m t _ (HB.out.kept (World.grownBy_alloc _ _ _)) HR.out).mono ?_
  rintro e w1 ⟨K, rfl, hS, n, hw⟩
  obtain ⟨g, hg⟩ : ∃ g, g = w.heap.size := ⟨_, rfl⟩
  have KA : Blk w1 g 33 #[.string ⟨#[]⟩, .int .i64 0, .int .i64 0] := by rw [hw, hg]; exact Blk.new w 33 _
  have hgw : w.grownBy w1 none := by rw [hw]; exact (World.grownBy_alloc _ _ _).trans (grown_drewN _ _ _)
  have HW := Lib.hid hgw
  have HB1 := HB.out.kept hgw
  have HG := Lib.hid hg
  rw [← hg]
  clear hw hgw HB hg
  cases hi : isS m t
  · have k := not_is hi
    have ht : tokS m t = ⟨#[]⟩ := by unfold tokS; rw [hi]; rfl
    have HT := Lib.hid (And.intro k ht)
    have y0 := KA.frozen 0
    have y1 := KA.frozen 1
    have y2 := KA.frozen 2
    have z0 := KA.cell 0
    have z1 := KA.cell 1
    have z2 := KA.cell 2
    simp at z0 z1 z2
    clear k ht
    go_wp2
    refine bodyPost_ret (results_ct rfl _ _ g 33 #[.string ⟨#[]⟩, .int .i64 0, .int .i64 0] (0, 0) _ rfl (((KA.set 0 _).set 1 _).set 2 _) Try.underlying33 rfl (by kernel_rfl)) rfl ?_
    have hgl := HG.out
    refine ⟨?_, grown_set (grown_set (grown_set HW.out (by simp; omega) _) (by simp; omega) _) (by simp; omega) _⟩
    rw [HT.out.1.1, HT.out.1.2, HT.out.2, hi]
    rfl
  · obtain ⟨hK, he⟩ := (hS.is HR.out).1 hi
    obtain ⟨A, c, hblk, hc, hC, _⟩ := HB1.opened
    obtain ⟨ad, e0, hx0, hx1, hx2⟩ := at_ac hC hK
    subst e0
    have hh := hS.here HR.out hK he
    obtain ⟨x, hxe⟩ : ∃ x, x = m[K] := ⟨_, rfl⟩
    rw [← hxe] at hx0 hx1 hx2 hh he
    have hT : (chS m t = x.2.1 ∧ paS m t = x.2.2) ∧ tokS m t = x.1 := by
      unfold chS paS tokS
      rw [hh, hi, he]
      exact ⟨⟨rfl, rfl⟩, rfl⟩
    have HT := Lib.hid hT
    have hl : m.length ≤ 9223372036854775807 := hC.2.1
    have hKl : (K : Int) < (m.length : Int) := by omega
    have x0 : w1.cell? ⟨r, 0, none⟩ = some (.slice (some ad) m.length c) := hblk.cell 0
    have y0 := KA.frozen 0
    have y1 := KA.frozen 1
    have y2 := KA.frozen 2
    have z0 := KA.cell 0
    have z1 := KA.cell 1
    have z2 := KA.cell 2
    simp at z0 z1 z2
    clear hT hh hxe he hblk hC hc
    go_wp2
    refine bodyPost_ret (results_ct rfl _ _ g 33 #[.string x.1, .int .i64 x.2.1, .int .i64 x.2.2] (0, 0) _ rfl (((KA.set 0 _).set 1 _).set 2 _) Try.underlying33 rfl (by kernel_rfl)) rfl ?_
    have hgl := HG.out
    refine ⟨?_, grown_set (grown_set (grown_set HW.out (by simp; omega) _) (by simp; omega) _) (by simp; omega) _⟩
    rw [HT.out.1.1, HT.out.1.2, HT.out.2, hi]
    rfl
set_option maxRecDepth 20000 in
theorem refdebt_any (r base : Nat) (m : List Acct) (t : ByteArray) (w : World) (hB : Rb w r base m) (hF : Fine m) :
    Calls Try.prog 28 #[.pointer (some ⟨r, 0, none⟩), .string t] w fun e w' => e = .returned (.int .i64 (chS m t - paS m t)) ∧ w.grownBy w' none := by
  have HB := Lib.hid hB
  have hw : wrap64 (chS m t - paS m t) = chS m t - paS m t := wrap_id (by have := hF.at t; omega)
  have HR := Lib.hid hF.rise
  have HW := Lib.hid hw
  clear hB hF hw
  go_enter Try.func28, Try.ntmps28
  go_wp2_with fail
  refine (refaccount_any r base m t _ HB.out HR.out).mono ?_
  rintro e w1 ⟨rfl, hg⟩
  go_wp2
  go_ret
  exact ⟨by rw [HW.out]; rfl, hg.trans (World.grownBy_alloc _ _ _)⟩
end Go.Proofs.Ytbfpggghcdfghaa.Hand
