/- fareboxref22's Book by hand: Pay. -/
import Derived.Test.YtbfpggghcdfghaaHandM
namespace Go.Proofs.Ytbfpggghcdfghaa.Hand
open Go.RowKit Go.Maps Go.Sort Go.Proofs.YtbfpggghcdfghaaW.PrintWords Go.Proofs.Ytbfpggghcdfghaa.PA

theorem add_block (ad : Addr) (j : Nat) : (ad.add j).block = ad.block := by
  unfold Addr.add
  split <;> rfl
theorem ne_types {w : World} {r g : Nat} {cs cells : Array Value} (h : Blk w r 52 cs) (hc : w.heap[g]? = some (.cells cells 33 (0, 0))) : r ≠ g := by
  rintro rfl
  unfold Blk at h
  rw [h] at hc
  injection hc with hc
  injection hc with _ h2
  exact absurd h2 (by decide)
def RefPost (r base : Nat) (w : World) (v : Value) (m' : List Acct) (e : Ending) (w' : World) : Prop := e = .returned v ∧ Rb w' r base m' ∧ Rk w w' r base
set_option maxRecDepth 20000 in
theorem refpay_any (r base : Nat) (m : List Acct) (t : ByteArray) (n : Int) (w : World) (hB : Rb w r base m) (hF : Fine m) (hn : -9223372036854775808 ≤ n ∧ n ≤ 9223372036854775807) :
    Calls Try.prog 26 #[.pointer (some ⟨r, 0, none⟩), .string t, .int .i64 n] w (RefPost r base w (.int .i64 (payS m t n).1) (payS m t n).2) := by
  have HB := Lib.hid hB
  have HF := Lib.hid hF
  have HN := Lib.hid hn
  clear hB hF hn
  go_enter Try.func26, Try.ntmps26
  go_wp2_with fail
  refine (place_any r base m t w HB.out HF.out.rise).mono ?_
  rintro e w1 ⟨K, rfl, hS, nn, hw⟩
  have hg1 : w.grownBy w1 none := by rw [hw]; exact grown_drewN _ _ _
  have HB1 := Lib.hid (HB.out.kept hg1)
  have HG1 := Lib.hid hg1
  have HS := Lib.hid hS
  clear hw hg1 hS HB
  have hat := HF.out.at t
  cases hi : isS m t
  · have e : payS m t n = (220, m) := by unfold payS; rw [if_pos (.inl hi)]
    have HE := Lib.hid e
    clear e hat
    go_wp2_with fail
    go_quiet (fail)
    go_wp2
    go_ret
    exact ⟨by rw [HE.out]; rfl, by rw [HE.out]; exact HB1.out.drewN _, Rk.of_grown (HG1.out.trans (grown_drewN _ _ _))⟩
  · by_cases h1 : n < 1
    · have e : payS m t n = (220, m) := by unfold payS; rw [if_pos (.inr (.inl h1))]
      have HE := Lib.hid e
      clear e hat
      go_wp2_with fail
      go_quiet (fail)
      go_wp2
      go_ret
      exact ⟨by rw [HE.out]; rfl, by rw [HE.out]; exact HB1.out.drewN _, Rk.of_grown (HG1.out.trans (grown_drewN _ _ _))⟩
    · obtain ⟨hK, he⟩ := (HS.out.is HF.out.rise).1 hi
      have hh := HS.out.here HF.out.rise hK he
      obtain ⟨A, c, hblk, hc, hC, hrow⟩ := HB1.out.opened
      obtain ⟨ad, e0, hx0, hx1, hx2⟩ := at_ac hC hK
      subst e0
      have hl : m.length ≤ 9223372036854775807 := hC.2.1
      obtain ⟨x, hxe⟩ : ∃ x, x = m[K] := ⟨_, rfl⟩
      rw [← hxe] at hx0 hx1 hx2 hh he
      have hT : chS m t = x.2.1 ∧ paS m t = x.2.2 := by
        unfold chS paS
        rw [hh]
        exact ⟨rfl, rfl⟩
      rw [hT.1, hT.2] at hat
      have hw1 : wrap64 (x.2.1 - x.2.2) = x.2.1 - x.2.2 := wrap_id (by omega)
      have hKl : (K : Int) < (m.length : Int) := by omega
      have x0 : w1.cell? ⟨r, 0, none⟩ = some (.slice (some ad) m.length c) := hblk.cell 0
      have HX := Lib.hid hxe
      have HT := Lib.hid hT
      have HH := Lib.hid he
      have h1' : decide (n < 1) = false := decide_eq_false h1
      by_cases h2 : x.2.1 - x.2.2 < n
      · have e : payS m t n = (220, m) := by unfold payS; rw [hT.1, hT.2, if_pos (.inr (.inr h2))]
        have HE := Lib.hid e
        clear e hat hT hblk hC hc hh hrow hxe he
        go_wp2_with fail
        go_quiet (fail)
        go_wp2
        go_ret
        exact ⟨by rw [HE.out]; rfl, by rw [HE.out]; exact HB1.out.drewN _, Rk.of_grown (HG1.out.trans (grown_drewN _ _ _))⟩
      · have e : payS m t n = (0, m.set K (t, x.2.1, x.2.2 + n)) := by
          unfold payS
          rw [hT.1, hT.2, if_neg (by rw [hi]; simp; omega), HS.out.put_is HF.out.rise hK (by rw [← hxe]; exact he)]
        have hw2 : wrap64 (x.2.2 + n) = x.2.2 + n := wrap_id (by omega)
        have HE := Lib.hid e
        have HBL := Lib.hid hblk
        have HRW := Lib.hid hrow
        clear e hat hT hblk hC hc hh hrow hxe he
        go_wp2_with fail
        go_quiet (fail)
        obtain ⟨W1, hW1⟩ : ∃ W, W = w1.drewN nq := ⟨_, rfl⟩
        have hrow1 : W1.ownsRow base 33 3 (.slice (some ad) m.length c) m.length (m.flatMap encA) := by rw [hW1]; exact HRW.out
        replace HBL : Blk W1 r 52 #[.slice (some ad) m.length c] := by rw [hW1]; exact HBL.out
        have hg2 : w.grownBy W1 none := by rw [hW1]; exact HG1.out.trans (grown_drewN _ _ _)
        replace hx2 : W1.cell? ⟨(ad.add (K * 3)).block, (ad.add (K * 3)).off + 2, none⟩ = some (.int .i64 x.2.2) := by rw [hW1]; exact hx2
        replace x0 : W1.cell? ⟨r, 0, none⟩ = some (.slice (some ad) m.length c) := by rw [hW1]; exact x0
        have hwr := row_write hrow1 K 2 (.int .i64 (x.2.2 + n)) (t, x.2.1, x.2.2 + n) hK (by decide) (by rw [← HX.out, ← HH.out]; rfl)
        obtain ⟨hfz, hrow2, hg3, hbb, cells, hcl⟩ := hwr
        have HG2 := Lib.hid hg2
        have HR2 := Lib.hid hrow2
        have HG3 := Lib.hid hg3
        have HCL := Lib.hid hcl
        rw [← hW1]
        clear hW1 hx0 hx1 hw1 hrow1 hg2 hrow2 hg3 hcl
        go_wp2_with fail
        go_region
        go_wp2
        go_ret
        have hne : r ≠ ad.block := ne_types HBL HCL.out
        refine ⟨by rw [HE.out]; rfl, ?_, ?_⟩
        · rw [HE.out]
          refine ⟨.slice (some ad) m.length c, HBL.far (by rw [add_block]; exact hne) _, ?_⟩
          show (W1.setCell _ _).ownsRow base 33 3 _ (m.set K _).length _
          rw [List.length_set]
          exact HR2.out
        · have h := (Rk.of_grown (r := r) (base := base) HG2.out).trans (Rk.of_write HG3.out hbb HCL.out)
          exact ⟨h.os, h.tape, h.output, h.size, h.block⟩
end Go.Proofs.Ytbfpggghcdfghaa.Hand
