/- fareboxref22.Open by hand. -/
import Derived.Test.YtbfpggghcdfghaaHandO
namespace Go.Proofs.Ytbfpggghcdfghaa.Hand
open Go.RowKit Go.Maps Go.Sort Go.Proofs.YtbfpggghcdfghaaW.PrintWords Go.Proofs.Ytbfpggghcdfghaa.PA Go.Proofs.Ytbfpggghcdfghaa.XA

theorem acctright_any (x : Acct) (w : World) : Calls Try.prog 24 #[.agg #[.string x.1, .int .i64 x.2.1, .int .i64 x.2.2]] w fun e w' => e = .returned (.bool (okB x)) ∧ w.grownBy w' none := by
  have h := fareboxref08_AccountRight.calls x.1 x.2.1 x.2.2 (okB x) w (by
    unfold fareboxref08_AccountRight.f fareboxref05_Right.f fareboxref08_within.f okB
    by_cases h1 : x.2.1 ≥ -9007199254740992
    · rw [if_pos h1]
      simp only [Option.bind_some]
      by_cases h2 : (x.1.size : Int) = 8
      · rw [if_pos h2]
        by_cases h3 : x.2.1 ≤ 9007199254740992
        · rw [if_pos (by simpa using h3)]
          by_cases h4 : x.2.2 ≥ 0
          · rw [if_pos h4]
            simp only [Option.bind_some]
            congr 1
            apply decide_eq_decide.2
            simp [h2, h3, h4]
          · rw [if_neg h4]
            simp only [Option.bind_some]
            congr 1
            symm
            simp
            omega
        · rw [if_neg (by simpa using h3)]
          congr 1
          symm
          simp
          omega
      · rw [if_neg h2]
        congr 1
        symm
        simp
        omega
    · rw [if_neg h1]
      simp only [Option.bind_some]
      split
      · rw [if_neg (by simp)]
        congr 1
        symm
        simp
        omega
      · congr 1
        symm
        simp
        omega)
  refine h.mono ?_
  rintro e w' ⟨he, hb⟩
  exact ⟨he, hb.os, hb.tape, hb.output, hb.size, fun j hj _ => hb.block j hj⟩
def RefOpenPost (w : World) (l : List Acct) (e : Ending) (w' : World) : Prop :=
  Below w.heap.size w w' ∧
  ((openE l = 0 ∧ ∃ r, e = .returned (.tuple #[.pointer (some ⟨r, 0, none⟩), .int .i64 0]) ∧ Rb w' r w.heap.size l ∧ w.heap.size ≤ r) ∨
   (openE l ≠ 0 ∧ e = .returned (.tuple #[.pointer none, .int .i64 (openE l)])))
set_option maxHeartbeats 8000000 in
set_option maxRecDepth 20000 in
theorem refopen_any (A : Option Addr) (c : Nat) (l : List Acct) (w : World) (hr : kAc.C w A l.length l) (hlc : l.length ≤ c) : Calls Try.prog 18 #[.slice A l.length c] w (RefOpenPost w l) := by
  have hC := Lib.hid hr
  have HLC := Lib.hid hlc
  have hl : l.length ≤ 9223372036854775807 := hr.2.1
  clear hr hlc
  by_cases h1 : (l.length : Int) > 1000
  · have e : openE l = 2 := by unfold openE; rw [if_pos (by omega)]
    go_enter Try.func18, Try.ntmps18
    go_wp2
    go_ret2
    exact ⟨Below.refl _ _, .inr ⟨by rw [e]; decide, by rw [e]; rfl⟩⟩
  · have e : openE l = chk none l := by unfold openE; rw [if_neg (by omega)]
    have HE := Lib.hid e
    clear e
    go_enter Try.func18, Try.ntmps18
    go_wp2
    go_loopw [4] (fun i wr => ∃ k : Nat, k ≤ l.length ∧ i = .int .i64 k ∧ Below w.heap.size w wr ∧ chk none l = chk (prevOf l k) (l.drop k)) (fun i _ => l.length - (intOf i).toNat)
    case atStart => exact ⟨0, Nat.zero_le _, rfl, Below.refl _ _, rfl⟩
    case round =>
      obtain ⟨k, hk, rfl, hR, hck⟩ := hrel
      have HR := Lib.hid hR
      have HCK := Lib.hid hck
      clear hR hck
      by_cases hlt : k < l.length
      · obtain ⟨ad, e0, hx0, hx1, hx2⟩ := at_ac (Kd.C_below hC.out HR.out) hlt
        subst e0
        have hst := chk_step l k hlt
        obtain ⟨x, hxe⟩ : ∃ x, x = l[k] := ⟨_, rfl⟩
        rw [← hxe] at hx0 hx1 hx2 hst
        have HS := Lib.hid (HE.out.trans (HCK.out.trans hst))
        have HX := Lib.hid hxe
        clear hxe hst
        go_wp2_with fail
        refine (acctright_any x wr).mono ?_
        rintro e w2 ⟨rfl, hg2⟩
        replace HR := Lib.hid (below_none HR.out hg2 HR.out.size)
        clear hg2 hx0 hx1 hx2
        cases hok : okB x
        · have he : openE l = 80 := by have := HS.out; rw [if_pos hok] at this; exact this
          have HX2 := Lib.hid he
          clear he
          go_wp2
          go_ret2
          exact ⟨HR.out, .inr ⟨by rw [HX2.out]; decide, by rw [HX2.out]; rfl⟩⟩
        · have HS2 := HS.out
          rw [if_neg (by rw [hok]; simp)] at HS2
          rcases Nat.eq_zero_or_pos k with hk0 | hk0
          · subst hk0
            have HS3 := Lib.hid (show openE l = chk (prevOf l (0 + 1)) (l.drop (0 + 1)) by rw [HS2]; rfl)
            clear HS2
            go_wp2_with fail
            go_quiet (fail)
            replace HR := Lib.hid (below_none HR.out (grown_drewN _ nq none) HR.out.size)
            go_wp2
            refine ⟨⟨0 + 1, by omega, by go_num, HR.out, by rw [← HE.out]; exact HS3.out⟩, by simp [intOf]; omega⟩
          · obtain ⟨j, rfl⟩ : ∃ j, k = j + 1 := ⟨k - 1, by omega⟩
            obtain ⟨ad2, e2, hz0, _, _⟩ := at_ac (Kd.C_below hC.out HR.out) (show j < l.length by omega)
            injection e2 with e2
            subst e2
            obtain ⟨ad3, e3, hy0, _, _⟩ := at_ac (Kd.C_below hC.out HR.out) hlt
            injection e3 with e3
            subst e3
            rw [← HX.out] at hy0
            have hprev := prev_succ l j (by omega)
            obtain ⟨v, hv⟩ : ∃ v, v = l[j].1 := ⟨_, rfl⟩
            rw [← hv] at hz0 hprev
            clear hv
            rw [hprev] at HS2
            have hpos : (0 : Int) < (j : Int) + 1 := by omega
            have hwr : wrap64 (j : Int) = (j : Int) := wrap_id (by omega)
            have hjl : (j : Int) < (l.length : Int) := by omega
            have hjl2 : (j : Int) + 1 < (l.length : Int) := by omega
            replace HS2 := Lib.hid HS2
            clear HS hprev
            by_cases hvx : lt v x.1
            · have b1 : Op.bytesLess x.1.toList v.toList = false := by rw [less_str]; exact decide_eq_false (lt_asymm hvx)
              have b2 : (x.1.toList == v.toList) = false := by rw [eq_str]; exact decide_eq_false (fun e => lt_ne hvx e.symm)
              have HS3 := Lib.hid (show openE l = chk (prevOf l (j + 1 + 1)) (l.drop (j + 1 + 1)) by rw [HS2.out, if_neg (by simp [hvx])])
              clear hvx
              go_wp2_with fail
              go_quiet (fail)
              replace HR := Lib.hid (below_none HR.out (grown_drewN _ nq none) HR.out.size)
              go_wp2
              refine ⟨⟨j + 1 + 1, by omega, by go_num, HR.out, by rw [← HE.out]; exact HS3.out⟩, by simp [intOf]; omega⟩
            · have he : openE l = 220 := by rw [HS2.out, if_pos (by simp [hvx])]
              have HX2 := Lib.hid he
              by_cases hxv : lt x.1 v
              · have b1 : Op.bytesLess x.1.toList v.toList = true := by rw [less_str]; exact decide_eq_true hxv
                clear hvx hxv he
                go_wp2_with fail
                go_quiet (fail)
                go_wp2
                go_ret2
                exact ⟨below_none HR.out (grown_drewN _ nq none) HR.out.size, .inr ⟨by rw [HX2.out]; decide, by rw [HX2.out]; rfl⟩⟩
              · have hev : x.1 = v := Classical.byContradiction fun hn => by rcases lt_total hn with h | h <;> contradiction
                have b1 : Op.bytesLess x.1.toList v.toList = false := by rw [less_str]; exact decide_eq_false hxv
                have b2 : (x.1.toList == v.toList) = true := by rw [eq_str]; exact decide_eq_true hev
                clear hvx hxv he hev
                go_wp2_with fail
                go_quiet (fail)
                go_wp2
                go_ret2
                exact ⟨below_none HR.out (grown_drewN _ nq none) HR.out.size, .inr ⟨by rw [HX2.out]; decide, by rw [HX2.out]; rfl⟩⟩
      · obtain ⟨i0, hi, hz0, hz1, hz2⟩ := info_parts info33
        have hkm : k = l.length := by omega
        subst hkm
        have HL0 := Lib.hid (show openE l = 0 by rw [HE.out, HCK.out, List.drop_length]; rfl)
        have hws : w.heap.size ≤ wr.heap.size := HR.out.size
        go_wp2_with (first | (at_builtin; refine wpList_append_C _ rfl _ _ rfl wr.heap.size _ 0 [] rfl (own_empty wr wr.heap.size (Nat.le_refl _)) A c l l.length rfl rfl (Kd.C_alloc (Kd.C_below hC.out HR.out) _) (by omega) (by simp) ⟨_, _, rfl⟩ ?_; intro v2 W2 hown2 hg2; rw [Nat.zero_add, List.nil_append] at hown2; obtain ⟨B2, cap2, rfl⟩ := own_form hown2))
        go_ret2
        have hb2 : Below wr.heap.size wr W2 := (below_alloc (Below.refl _ _) _ : Below wr.heap.size wr (wr.alloc (.cells #[] 33))).grown hg2 (by simp) (fun k hk => by injection hk with hk; subst hk; exact Nat.le_refl _)
        have hs2 := hb2.size
        refine ⟨below_alloc (HR.out.trans (hb2.mono hws)) _, .inl ⟨HL0.out, W2.heap.size, rfl, ⟨_, Blk.new _ _ _, own_weaken (hown2.alloc _) hws⟩, by omega⟩⟩
end Go.Proofs.Ytbfpggghcdfghaa.Hand
