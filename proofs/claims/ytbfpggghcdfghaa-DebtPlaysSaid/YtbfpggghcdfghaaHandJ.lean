/- debt.Open by hand: cmp.Compare on texts, may, the loop. -/
import Derived.Test.YtbfpggghcdfghaaPureB
import Derived.Test.YtbfpggghcdfghaaHandG
namespace Go.Proofs.Ytbfpggghcdfghaa.Hand
open Go.RowKit Go.Maps Go.Sort Go.Proofs.YtbfpggghcdfghaaW.PrintWords Go.Proofs.Ytbfpggghcdfghaa.PA Go.Proofs.Ytbfpggghcdfghaa.XA

theorem nan_any (a : ByteArray) (w : World) : Calls Try.prog 33 #[.string a] w fun e w' => e = .returned (.bool false) ∧ w = w' := by
  go_enter Try.func33, Try.ntmps33
  go_wp2
  go_ret
  exact ⟨by simp, rfl⟩
/-- What Compare answers. -/
def cmpS (a b : ByteArray) : Int := if lt a b then -1 else if lt b a then 1 else 0
theorem cmp_any (a b : ByteArray) (w : World) : Calls Try.prog 23 #[.string a, .string b] w fun e w' => e = .returned (.int .i64 (cmpS a b)) ∧ w = w' := by
  unfold cmpS
  have e1 : Op.bytesLess a.toList b.toList = decide (lt a b) := by rw [less_eq, toL_eq, toL_eq]; exact decide_eq_decide.2 (lt_iff a b).symm
  have e2 : Op.bytesLess b.toList a.toList = decide (lt b a) := by rw [less_eq, toL_eq, toL_eq]; exact decide_eq_decide.2 (lt_iff b a).symm
  by_cases h1 : lt a b
  · rw [if_pos h1]
    rw [decide_eq_true h1] at e1
    clear e2
    go_enter Try.func23, Try.ntmps23
    go_wp2_with (first | (go_at_call 33; refine (nan_any _ _).mono ?_; rintro e w' ⟨rfl, rfl⟩))
    go_ret
    exact ⟨rfl, rfl⟩
  · rw [if_neg h1]
    rw [decide_eq_false h1] at e1
    by_cases h2 : lt b a
    · rw [if_pos h2]
      have e3 : (a.toList == b.toList) = false := by
        rw [beq_eq_false_iff_ne, toL_eq, toL_eq]
        exact fun e => lt_ne h2 (toL_inj e).symm
      rw [decide_eq_true h2] at e2
      go_enter Try.func23, Try.ntmps23
      go_wp2_with (first | (go_at_call 33; refine (nan_any _ _).mono ?_; rintro e w' ⟨rfl, rfl⟩))
      go_ret
      exact ⟨rfl, rfl⟩
    · rw [if_neg h2]
      have e3 : a = b := Classical.byContradiction fun hn => by rcases lt_total hn with h | h <;> contradiction
      subst e3
      clear h1 h2 e2
      go_enter Try.func23, Try.ntmps23
      go_wp2_with (first | (go_at_call 33; refine (nan_any _ _).mono ?_; rintro e w' ⟨rfl, rfl⟩))
      go_ret
      exact ⟨rfl, rfl⟩
theorem cmp_any2 (a b : ByteArray) (w : World) : Calls Try.prog 23 #[.string a, .string b] w fun e w' => e = .returned (.int .i64 (cmpS a b)) ∧ w' = w := (cmp_any a b w).mono fun _ _ h => ⟨h.1, h.2.symm⟩
theorem may_any (x : Acct) (w : World) : Calls Try.prog 22 #[.agg #[.string x.1, .int .i64 x.2.1, .int .i64 x.2.2]] w fun e w' => e = .returned (.bool (okB x)) ∧ w.grownBy w' none := by
  have h := debt_may.calls x.1 x.2.1 x.2.2 (okB x) w (by
    unfold debt_may.f money_Right.f okB
    split
    · split
      · simp only [Option.bind_some]
        split
        · split
          · congr 1
            apply decide_eq_decide.2
            simp_all
          · congr 1
            symm
            simp_all
            omega
        · congr 1
          symm
          simp_all
          omega
      · simp only [Option.bind_some]
        rw [if_neg (by simp)]
        congr 1
        symm
        simp_all
        omega
    · congr 1
      symm
      simp_all)
  refine h.mono ?_
  rintro e w' ⟨he, hb⟩
  exact ⟨he, hb.os, hb.tape, hb.output, hb.size, fun j hj _ => hb.block j hj⟩

/-! ### Open -/
def OpenPost (w : World) (l : List Acct) (e : Ending) (w' : World) : Prop :=
  Below w.heap.size w w' ∧
  ((openE l = 0 ∧ Fine l ∧ ∃ p b, e = .returned (.tuple #[.pointer (some ⟨p, 0, none⟩), .int .i64 0]) ∧ Bk w' p b l ∧ w.heap.size ≤ b ∧ w.heap.size ≤ p) ∨
   (openE l ≠ 0 ∧ e = .returned (.tuple #[.pointer none, .int .i64 (openE l)])))
structure ORel (w : World) (l : List Acct) (p b k : Nat) (wr : World) : Prop where
  bel : Below w.heap.size w wr
  bk : Bk wr p b (l.take k)
  op : Opened l k
  ck : chk none l = chk (prevOf l k) (l.drop k)
set_option maxHeartbeats 4000000 in
set_option maxRecDepth 20000 in
theorem open_any (A : Option Addr) (c : Nat) (l : List Acct) (w : World) (hr : kAc.C w A l.length l) : Calls Try.prog 16 #[.slice A l.length c] w (OpenPost w l) := by
  have hC := Lib.hid hr
  have hl : l.length ≤ 9223372036854775807 := hr.2.1
  clear hr
  by_cases h1 : (l.length : Int) > 1000
  · have e : openE l = 2 := by unfold openE; rw [if_pos (by omega)]
    go_enter Try.func16, Try.ntmps16
    go_wp2
    go_ret2
    exact ⟨Below.refl _ _, .inr ⟨by rw [e]; decide, by rw [e]; rfl⟩⟩
  · have e : openE l = chk none l := by unfold openE; rw [if_neg (by omega)]
    have HE := Lib.hid e
    clear e
    go_enter Try.func16, Try.ntmps16
    go_wp2_with fail
    refine (new_any w).mono ?_
    rintro e w1 ⟨rfl, hB, hg⟩
    obtain ⟨p, hp⟩ : ∃ p, p = w.heap.size + 1 := ⟨_, rfl⟩
    obtain ⟨b, hb⟩ : ∃ b, b = w.heap.size := ⟨_, rfl⟩
    rw [← hp, ← hb] at hB
    rw [← hp]
    have n0 := Lib.hid (show w.heap.size ≤ b ∧ w.heap.size ≤ p by omega)
    have H1 := Lib.hid (show ORel w l p b 0 w1 from ⟨below_none (Below.refl _ _) hg (Nat.le_refl _), hB, opened_zero l, rfl⟩)
    clear hB hg hp hb
    go_wp2
    go_loopw [13] (fun i wr => ∃ k : Nat, k ≤ l.length ∧ i = .int .i64 k ∧ ORel w l p b k wr) (fun i _ => l.length - (intOf i).toNat)
    case atStart => exact ⟨0, Nat.zero_le _, rfl, H1.out⟩
    case round =>
      obtain ⟨k, hk, rfl, hR⟩ := hrel
      clear H1
      have HR := Lib.hid hR
      clear hR
      by_cases hlt : k < l.length
      · obtain ⟨ad, e0, hx0, hx1, hx2⟩ := at_ac (Kd.C_below hC.out HR.out.bel) hlt
        subst e0
        have hst := chk_step l k hlt
        obtain ⟨x, hxe⟩ : ∃ x, x = l[k] := ⟨_, rfl⟩
        rw [← hxe] at hx0 hx1 hx2 hst
        have HX := Lib.hid hxe
        have HS := Lib.hid (HE.out.trans (HR.out.ck.trans hst))
        clear hxe hst
        go_wp2_with fail
        obtain ⟨W1, hW1⟩ : ∃ W, W = wr.alloc (.cells #[.string x.1, .int .i64 x.2.1, .int .i64 x.2.2] 33) := ⟨_, rfl⟩
        obtain ⟨g, hg⟩ : ∃ g, g = wr.heap.size := ⟨_, rfl⟩
        have KA : Blk W1 g 33 #[.string x.1, .int .i64 x.2.1, .int .i64 x.2.2] := by rw [hW1, hg]; exact Blk.new _ _ _
        have hgb : g ≠ b := by have := HR.out.bk.ltb; omega
        have hgp : g ≠ p := by have := HR.out.bk.ltp; omega
        have hLB : Below w.heap.size w W1 := by rw [hW1]; exact below_alloc HR.out.bel _
        have hBB : Bk W1 p b (l.take k) := by rw [hW1]; exact HR.out.bk.alloc _
        have HO := Lib.hid HR.out.op
        rw [← hW1, ← hg]
        clear hW1 hg hx0 hx1 hx2 HR
        refine (may_any x W1).mono ?_
        rintro e w2 ⟨rfl, hg2⟩
        replace KA := KA.grown hg2 (by simp)
        replace hLB := Lib.hid (below_none hLB hg2 hLB.size)
        replace hBB := Lib.hid (hBB.kept hg2 (by simp) (by simp))
        clear hg2
        cases hok : okB x
        · have he : openE l = 80 := by have := HS.out; rw [if_pos hok] at this; exact this
          go_wp2
          go_ret2
          exact ⟨hLB.out, .inr ⟨by rw [he]; decide, by rw [he]; rfl⟩⟩
        · have HS2 := HS.out
          rw [if_neg (by rw [hok]; simp)] at HS2
          have y0 := KA.cell 0
          have y1 := KA.cell 1
          have y2 := KA.cell 2
          simp at y0 y1 y2
          rcases Nat.eq_zero_or_pos k with hk0 | hk0
          · subst hk0
            have HS3 := Lib.hid (show openE l = chk (prevOf l (0 + 1)) (l.drop (0 + 1)) by rw [HS2]; rfl)
            clear HS2
            go_wp2_with fail
            go_quiet (fail)
            clear y0 y1 y2
            obtain ⟨W3, hW3⟩ : ∃ W, W = w2.drewN nq := ⟨_, rfl⟩
            replace KA : Blk W3 g 33 #[.string x.1, .int .i64 x.2.1, .int .i64 x.2.2] := by rw [hW3]; exact KA
            replace hLB := Lib.hid (show Below w.heap.size w W3 by rw [hW3]; exact ⟨hLB.out.os, hLB.out.tape, hLB.out.output, hLB.out.size, hLB.out.block⟩)
            replace hBB := Lib.hid (show Bk W3 p b (l.take 0) by rw [hW3]; exact ⟨hBB.out.blk, hBB.out.own, hBB.out.ne⟩)
            rw [← hW3]
            have y0 := KA.cell 0
            have y1 := KA.cell 1
            have y2 := KA.cell 2
            simp at y0 y1 y2
            clear hW3 KA
            have hop : Opened l (0 + 1) := HO.out.next hlt (by rw [← HX.out]; exact hok) (fun p hp => by cases hp)
            have hput := hop.put hlt
            rw [← HX.out] at hput
            have hfk := HO.out.fine (by omega)
            have hlk := hfk.few
            obtain ⟨W4, hrun, hown4, hg4⟩ := store_any W3.drew hBB.out.own (by unfold maxLen; omega) (t := x.1) (by have := ((ok_iff x).1 hok).1; unfold maxLen; omega) x.2.1 x.2.2
            have hg4' : W3.grownBy W4 (some b) := ⟨hg4.os, hg4.tape, hg4.output, hg4.size, hg4.block⟩
            have hB4 : Bk W4 p b (l.take (0 + 1)) := by rw [← hput]; exact ⟨hBB.out.blk.grown hg4' (by simpa using hBB.out.ne), hown4, hBB.out.ne⟩
            have hL4 := below_grown hLB.out hg4' n0.out.1 hLB.out.size
            have z0 := hBB.out.blk.cell 0
            simp at z0
            have HF := Lib.hid (show ORel w l p b (0 + 1) W4 from ⟨hL4, hB4, hop, by rw [← HE.out]; exact HS3.out⟩)
            clear hop hput hfk hlk hown4 hg4 hg4' hB4 hL4 hBB hLB
            go_wp2_with fail
            go_region
            go_wp2
            refine ⟨⟨0 + 1, by omega, by go_num, HF.out⟩, by simp [intOf]; omega⟩
          · obtain ⟨j, rfl⟩ : ∃ j, k = j + 1 := ⟨k - 1, by omega⟩
            obtain ⟨ad2, e2, hz0, _, _⟩ := at_ac (Kd.C_below hC.out hLB.out) (show j < l.length by omega)
            injection e2 with e2
            subst e2
            have hprev := prev_succ l j (by omega)
            obtain ⟨v, hv⟩ : ∃ v, v = l[j].1 := ⟨_, rfl⟩
            rw [← hv] at hz0 hprev
            clear hv
            rw [hprev] at HS2
            have hpos : (0 : Int) < (j : Int) + 1 := by omega
            have hwr : wrap64 (j : Int) = (j : Int) := wrap_id (by omega)
            have hjl : (j : Int) < (l.length : Int) := by omega
            clear HS y1 y2
            go_wp2_with fail
            go_quiet ((go_at_call 23; exact Calls.quiet_of_same (cmp_any2 _ _ _)))
            clear y0 hz0 hpos hwr hjl
            by_cases hvx : lt v x.1
            · have hc : cmpS v x.1 = -1 := by unfold cmpS; rw [if_pos hvx]
              have HS3 := Lib.hid (show openE l = chk (prevOf l (j + 1 + 1)) (l.drop (j + 1 + 1)) by rw [HS2, if_neg (by simp [hvx])])
              have HP := Lib.hid hprev
              have HV := Lib.hid hvx
              clear HS2 hvx hprev
              obtain ⟨W3, hW3⟩ : ∃ W, W = w2.drewN nq := ⟨_, rfl⟩
              replace KA : Blk W3 g 33 #[.string x.1, .int .i64 x.2.1, .int .i64 x.2.2] := by rw [hW3]; exact KA
              replace hLB := Lib.hid (show Below w.heap.size w W3 by rw [hW3]; exact ⟨hLB.out.os, hLB.out.tape, hLB.out.output, hLB.out.size, hLB.out.block⟩)
              replace hBB := Lib.hid (show Bk W3 p b (l.take (j + 1)) by rw [hW3]; exact ⟨hBB.out.blk, hBB.out.own, hBB.out.ne⟩)
              rw [← hW3]
              have y0 := KA.cell 0
              have y1 := KA.cell 1
              have y2 := KA.cell 2
              simp at y0 y1 y2
              clear hW3 KA
              have hop : Opened l ((j + 1) + 1) := HO.out.next hlt (by rw [← HX.out]; exact hok) (fun p hp => by rw [HP.out] at hp; injection hp with hp; subst hp; rw [← HX.out]; exact HV.out)
              have hput := hop.put hlt
              rw [← HX.out] at hput
              have hfk := HO.out.fine (by omega)
              have hlk := hfk.few
              obtain ⟨W4, hrun, hown4, hg4⟩ := store_any W3.drew hBB.out.own (by unfold maxLen; omega) (t := x.1) (by have := ((ok_iff x).1 hok).1; unfold maxLen; omega) x.2.1 x.2.2
              have hg4' : W3.grownBy W4 (some b) := ⟨hg4.os, hg4.tape, hg4.output, hg4.size, hg4.block⟩
              have hB4 : Bk W4 p b (l.take ((j + 1) + 1)) := by rw [← hput]; exact ⟨hBB.out.blk.grown hg4' (by simpa using hBB.out.ne), hown4, hBB.out.ne⟩
              have hL4 := below_grown hLB.out hg4' n0.out.1 hLB.out.size
              have z0 := hBB.out.blk.cell 0
              simp at z0
              have HF := Lib.hid (show ORel w l p b ((j + 1) + 1) W4 from ⟨hL4, hB4, hop, by rw [← HE.out]; exact HS3.out⟩)
              clear hop hput hfk hlk hown4 hg4 hg4' hB4 hL4 hBB hLB
              go_wp2_with fail
              go_region
              go_wp2
              refine ⟨⟨(j + 1) + 1, by omega, by go_num, HF.out⟩, by simp [intOf]; omega⟩
            · have hc : 0 ≤ cmpS v x.1 := by unfold cmpS; rw [if_neg hvx]; split <;> omega
              have he : openE l = 220 := by rw [HS2, if_pos (by simp [hvx])]
              have HL := Lib.hid hLB.out
              clear HS2 hvx hprev
              go_wp2
              go_ret2
              exact ⟨⟨HL.out.os, HL.out.tape, HL.out.output, HL.out.size, HL.out.block⟩, .inr ⟨by rw [he]; decide, by rw [he]; rfl⟩⟩
      · go_wp2
        go_ret2
        have hkm : k = l.length := by omega
        subst hkm
        obtain ⟨a1, a2, a3, a4⟩ := HR.out
        have hf := a3.fine (by omega)
        rw [List.take_length] at hf a2
        refine ⟨a1, .inl ⟨?_, hf, p, b, rfl, a2, n0.out.1, n0.out.2⟩⟩
        rw [HE.out, a4, List.drop_length]
        rfl
end Go.Proofs.Ytbfpggghcdfghaa.Hand
