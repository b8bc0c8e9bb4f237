/- The walk of DebtListed. -/
import Derived.Test.YtbfpggghcdfghaaHandJ
namespace Go.Proofs.Ytbfpggghcdfghaa.Hand
open Go.RowKit Go.Maps Go.Sort Go.Proofs.YtbfpggghcdfghaaW.PrintWords Go.Proofs.Ytbfpggghcdfghaa.PA

theorem list_at (l : List Acct) (th : Int) (i : Nat) (hi : i < l.length) (h : th < owe l[i]) : ∃ hk : (listS (l.take i) th).length < (listS l th).length, (listS l th)[(listS (l.take i) th).length] = l[i].1 := by
  have e : listS l th = listS (l.take i) th ++ (l[i].1 :: listS (l.drop (i + 1)) th) := by
    have h1 : l = l.take i ++ (l[i] :: l.drop (i + 1)) := by rw [← List.drop_eq_getElem_cons hi, List.take_append_drop]
    have h2 : ∀ a b : List Acct, listS (a ++ b) th = listS a th ++ listS b th := fun a b => by simp [listS]
    have h3 : ∀ (x : Acct) (b : List Acct), th < owe x → listS (x :: b) th = x.1 :: listS b th := fun x b hx => by simp [listS, hx]
    conv => lhs; rw [h1]
    rw [h2, h3 _ _ h]
  have hk : (listS (l.take i) th).length < (listS l th).length := by
    have := congrArg List.length e
    simp only [List.length_append, List.length_cons] at this
    omega
  refine ⟨hk, ?_⟩
  have : (listS l th)[(listS (l.take i) th).length]? = some l[i].1 := by
    rw [e, List.getElem?_append_right (Nat.le_refl _)]
    simp
  rw [List.getElem?_eq_getElem hk] at this
  exact Option.some.inj this
theorem list_succ (l : List Acct) (th : Int) (i : Nat) (hi : i < l.length) : (listS (l.take (i + 1)) th).length = (listS (l.take i) th).length + (if th < owe l[i] then 1 else 0) := by
  rw [list_take l th i hi, List.length_append]
  split <;> rfl
theorem same_put {m : List Acct} (h : Fine m) {t : ByteArray} (hi : isS m t = true) : putS m t (chS m t) (paS m t) = m := by
  refine rise_ext (rise_put h.rise _ _ _) h.rise fun s => ?_
  by_cases e : t = s
  · subst e
    rw [get_put_same]
    unfold isS at hi
    unfold chS paS
    cases hg : getS m t with
    | none => rw [hg] at hi; cases hi
    | some x => rfl
  · exact get_put_other _ _ _ e
theorem set_same {m : List Acct} (h : Fine m) {t : ByteArray} (hi : isS m t = true) : setS m t (chS m t) = (0, 0, 0, m) := by
  have ha := h.at t
  have hs := is_size h hi
  unfold setS
  rw [if_neg (by omega), if_neg (by rw [hi]; simp), show min (paS m t) (chS m t) = paS m t by omega, same_put h hi, Int.sub_self, Int.sub_self]
theorem pay_all {m : List Acct} {t : ByteArray} (hi : isS m t = true) (ho : 1 ≤ chS m t - paS m t) :
    ∃ m', payS m t (chS m t - paS m t) = (0, m') ∧ chS m' t - paS m' t = 0 := by
  unfold payS
  rw [if_neg (by rw [hi]; simp; omega)]
  refine ⟨_, rfl, ?_⟩
  have e1 : chS (putS m t (chS m t) (paS m t + (chS m t - paS m t))) t = chS m t := by unfold chS; rw [get_put_same]; rfl
  have e2 : paS (putS m t (chS m t) (paS m t + (chS m t - paS m t))) t = paS m t + (chS m t - paS m t) := by
    have : ∀ a b : Int, paS (putS m t a b) t = b := fun a b => by unfold paS; rw [get_put_same]; rfl
    exact this _ _
  omega
theorem list_not {m : List Acct} (h : Fine m) {t : ByteArray} (ho : chS m t - paS m t = 0) {th : Int} (hth : 0 ≤ th) : ∀ x ∈ listS m th, x ≠ t := by
  intro x hx e
  subst e
  unfold listS at hx
  obtain ⟨y, hy, hyx⟩ := List.mem_map.1 hx
  obtain ⟨hy1, hy2⟩ := List.mem_filter.1 hy
  have hw := owe_at h.rise hy1
  rw [hyx, ho] at hw
  simp only [decide_eq_true_eq] at hy2
  omega

structure KRel (w : World) (p b : Nat) (l : List Acct) (An : Option Addr) (names : List ByteArray) (wr : World) : Prop where
  bk : Bk wr p b l
  bel : Below w.heap.size w wr
  nm : Kd.string.C wr An names.length names
theorem KRel.drewN {w : World} {p b : Nat} {l : List Acct} {An : Option Addr} {names : List ByteArray} {wr : World} (h : KRel w p b l An names wr) (n : Nat) : KRel w p b l An names (wr.drewN n) :=
  ⟨⟨h.bk.blk, h.bk.own, h.bk.ne⟩, ⟨h.bel.os, h.bel.tape, h.bel.output, h.bel.size, h.bel.block⟩, Kd.C_drewN h.nm n⟩
set_option maxHeartbeats 8000000 in
set_option maxRecDepth 20000 in
theorem debtlisted_any (A : Option Addr) (c : Nat) (l : List Acct) (th : Int) (t : ByteArray) (w : World) (hr : kAc.C w A l.length l) (hth : -9223372036854775808 ≤ th ∧ th ≤ 9223372036854775807) (ht : t.size ≤ maxLen) :
    Calls Try.prog 5 #[.slice A l.length c, .int .i64 th, .string t] w fun e w' => e = .returned (.bool true) ∧ Below w.heap.size w w' := by
  have hC := Lib.hid hr
  have HT := Lib.hid ht
  have HTH := Lib.hid hth
  have hl : l.length ≤ 9223372036854775807 := hr.2.1
  clear hr ht hth
  go_enter Try.func5, Try.ntmps5
  go_wp2_with fail
  refine (awake_any w).mono ?_
  rintro e w1 ⟨rfl, hb⟩
  have L1 := Lib.hid hb
  clear hb
  go_wp2_with fail
  refine (open_any A c l w1 (Kd.C_below hC.out L1.out)).mono ?_
  rintro e w2 ⟨hb, hcase⟩
  have L2 := Lib.hid (L1.out.trans (hb.mono L1.out.size))
  have n1 := L1.out.size
  clear hb L1
  rcases hcase with ⟨_, hF, p, b, rfl, hB, hlb, _⟩ | ⟨hne, rfl⟩
  · have HF := Lib.hid hF
    have HB := Lib.hid hB
    have HLB := Lib.hid (show w.heap.size ≤ b by omega)
    clear hF hB hlb n1
    have hfew := HF.out.few
    go_wp2_with fail
    refine (listed_any p b l th w2 HB.out HF.out).mono ?_
    rintro e w3 ⟨v, rfl, hrow, hg⟩
    obtain ⟨An, cn, rfl, hcn, hCn⟩ := C_strings hrow
    replace HB := Lib.hid (HB.out.kept hg (by simp) (by simp))
    replace L2 := Lib.hid (below_none L2.out hg L2.out.size)
    have HN := Lib.hid hCn
    obtain ⟨names, hnames⟩ : ∃ x, x = listS l th := ⟨_, rfl⟩
    rw [← hnames] at HN hcn ⊢
    have hnl : names.length ≤ 1000 := by rw [hnames]; exact Nat.le_trans (list_len l th) hfew
    have HNM := Lib.hid hnames
    clear hrow hg hCn hnames
    have K3 := Lib.hid (show KRel w p b l An names w3 from ⟨HB.out, L2.out, HN.out⟩)
    clear HB L2 HN
    go_wp2
    go_loopw [11, 12] (fun kv iv wr => ∃ i : Nat, i ≤ l.length ∧ iv = .int .i64 i ∧ kv = .int .i64 ((listS (l.take i) th).length : Nat) ∧ KRel w p b l An names wr) (fun _ iv _ => l.length - (intOf iv).toNat)
    case atStart => exact ⟨0, Nat.zero_le _, rfl, rfl, K3.out⟩
    case round =>
      obtain ⟨i, hi, rfl, rfl, hR⟩ := hrel
      clear K3
      have K3 := Lib.hid hR
      clear hR
      by_cases hlt : i < l.length
      · obtain ⟨ad, e0, hx0, hx1, hx2⟩ := at_ac (Kd.C_below hC.out K3.out.bel) hlt
        subst e0
        obtain ⟨x, hxe⟩ : ∃ x, x = l[i] := ⟨_, rfl⟩
        rw [← hxe] at hx0 hx1 hx2
        have hox := HF.out.ok x (by rw [hxe]; exact List.getElem_mem _)
        have hwr : wrap64 (x.2.1 - x.2.2) = x.2.1 - x.2.2 := wrap_id (by unfold PA.Ok at hox; omega)
        have HX := Lib.hid hxe
        have hil : (i : Int) < (l.length : Int) := by omega
        have hls := list_succ l th i hlt
        rw [← hxe] at hls
        have HLS := Lib.hid hls
        clear hxe hox hx0 hls
        by_cases hox : th < x.2.1 - x.2.2
        · have hla := list_at l th i hlt (by rw [← HX.out]; exact hox)
          rw [← HNM.out, ← HX.out] at hla
          obtain ⟨hkn, hka⟩ := hla
          obtain ⟨K, hK⟩ : ∃ K, K = (listS (l.take i) th).length := ⟨_, rfl⟩
          have hls2 := HLS.out
          rw [if_pos (show th < owe x from hox), ← hK] at hls2
          replace HLS := Lib.hid hls2
          have hka2 : ∀ (h : K < names.length), names[K] = x.1 := by rw [hK]; exact fun _ => hka
          rw [← hK] at hkn ⊢
          clear hK hka hls2
          go_wp2_with fail
          go_quiet (fail)
          obtain ⟨W1, hW1⟩ : ∃ W, W = wr.drewN nq := ⟨_, rfl⟩
          replace K3 := Lib.hid (K3.out.drewN nq)
          rw [← hW1] at K3 ⊢
          clear hW1 hx1 hx2 hwr
          obtain ⟨ad2, e2, hx0, _, _⟩ := at_ac (Kd.C_below hC.out K3.out.bel) hlt
          injection e2 with e2
          subst e2
          rw [← HX.out] at hx0
          obtain ⟨ad3, e3, hy0⟩ := Kd.at_string K3.out.nm (K : Int) (by omega) (by omega)
          have hrd : rdOf ByteArray.empty names (K : Int) = x.1 := by rw [← hka2 hkn]; simp [rdOf, hkn]
          rw [Int.toNat_natCast, hrd] at hy0
          subst e3
          have hkn2 : (K : Int) < (names.length : Int) := by omega
          clear hrd hka2
          go_wp2_with fail
          go_quiet (fail)
          replace K3 := Lib.hid (K3.out.drewN nq)
          go_wp2
          refine ⟨⟨i + 1, by omega, by go_num, by rw [HLS.out]; go_num, K3.out⟩, by simp [intOf]; omega⟩
        · have hls2 := HLS.out
          rw [if_neg (show ¬ th < owe x from hox)] at hls2
          replace HLS := Lib.hid hls2
          clear hls2
          go_wp2_with fail
          go_quiet (fail)
          replace K3 := Lib.hid (K3.out.drewN nq)
          go_wp2
          refine ⟨⟨i + 1, by omega, by go_num, by rw [HLS.out]; go_num, K3.out⟩, by simp [intOf]; omega⟩
      · have hil : i = l.length := by omega
        subst hil
        rw [List.take_length, ← HNM.out]
        have KB := Lib.hid K3.out.bk
        have KL := Lib.hid K3.out.bel
        clear K3 HNM hi hlt
        have hat := HF.out.at t
        cases his : isS l t
        · obtain ⟨k1, k2⟩ := not_is his
          clear hat
          go_wp2_with fail
          refine (debt_any p b l t wr KB.out HF.out HT.out).mono ?_
          rw [k1, k2]
          rintro e w4 ⟨rfl, hg⟩
          replace KB := Lib.hid (KB.out.kept hg (by simp) (by simp))
          replace KL := Lib.hid (below_none KL.out hg KL.out.size)
          clear hg
          go_wp2_with fail
          refine (account_any2 p b l t w4 KB.out HT.out).mono ?_
          rw [his]
          rintro e w5 ⟨rfl, hg⟩
          replace KL := Lib.hid (below_none KL.out hg KL.out.size)
          clear hg KB
          go_wp2
          go_ret
          exact ⟨rfl, below_alloc KL.out _⟩
        · have hto : tokS l t = t := by unfold tokS; rw [his]; rfl
          obtain ⟨ch, hch⟩ : ∃ x, x = chS l t := ⟨_, rfl⟩
          obtain ⟨pa, hpa⟩ : ∃ x, x = paS l t := ⟨_, rfl⟩
          go_wp2_with fail
          refine (debt_any p b l t wr KB.out HF.out HT.out).mono ?_
          rw [← hch, ← hpa]
          rintro e w4 ⟨rfl, hg⟩
          replace KB := Lib.hid (KB.out.kept hg (by simp) (by simp))
          replace KL := Lib.hid (below_none KL.out hg KL.out.size)
          have HCH := Lib.hid hch
          have HPA := Lib.hid hpa
          have HTO := Lib.hid hto
          have HIS := Lib.hid his
          rw [← hch, ← hpa] at hat
          have HAT := Lib.hid hat
          clear hg hch hpa hto his hat
          go_wp2_with fail
          refine (account_any2 p b l t w4 KB.out HT.out).mono ?_
          rw [HTO.out, ← HCH.out, ← HPA.out, HIS.out]
          rintro e w5 ⟨rfl, hg⟩
          replace KB := Lib.hid (KB.out.kept hg (by simp) (by simp))
          replace KL := Lib.hid (below_none KL.out hg KL.out.size)
          clear hg
          obtain ⟨g1, hg1⟩ : ∃ g, g = w5.heap.size := ⟨_, rfl⟩
          obtain ⟨W5, hW5⟩ : ∃ W, W = w5.alloc (.cells #[.string t, .int .i64 ch, .int .i64 pa] 33) := ⟨_, rfl⟩
          have KA : Blk W5 g1 33 #[.string t, .int .i64 ch, .int .i64 pa] := by rw [hW5, hg1]; exact Blk.new _ _ _
          have hgb := Lib.hid (show g1 ≠ b by have := KB.out.ltb; omega)
          replace KB := Lib.hid (show Bk W5 p b l by rw [hW5]; exact KB.out.alloc _)
          replace KL := Lib.hid (show Below w.heap.size w W5 by rw [hW5]; exact below_alloc KL.out _)
          have HW5 := Lib.hid hW5
          have HG1 := Lib.hid hg1
          clear hW5 hg1
          go_wp2_with fail
          rw [← HW5.out, ← HG1.out]
          clear HW5 HG1
          refine (set_any p b l t ch W5 KB.out HF.out HT.out).mono ?_
          rw [show setS l t ch = (0, 0, 0, l) by rw [HCH.out]; exact set_same HF.out HIS.out]
          rintro e w6 ⟨rfl, hB, hg⟩
          replace KB := Lib.hid hB
          replace KL := Lib.hid (below_grown KL.out hg HLB.out KL.out.size)
          replace KA := KA.grown hg (by simpa using hgb.out)
          clear hB hg
          go_wp2_with fail
          refine (account_any2 p b l t w6 KB.out HT.out).mono ?_
          rw [HTO.out, ← HCH.out, ← HPA.out, HIS.out]
          rintro e w7 ⟨rfl, hg⟩
          replace KB := Lib.hid (KB.out.kept hg (by simp) (by simp))
          replace KL := Lib.hid (below_none KL.out hg KL.out.size)
          replace KA := KA.grown hg (by simp)
          have x0 : ∀ o, (w7.alloc o).cell? ⟨g1, 0, none⟩ = some (.string t) := fun o => (KA.alloc o).cell 0
          have x1 : ∀ o, (w7.alloc o).cell? ⟨g1, 1, none⟩ = some (.int .i64 ch) := fun o => (KA.alloc o).cell 1
          have x2 : ∀ o, (w7.alloc o).cell? ⟨g1, 2, none⟩ = some (.int .i64 pa) := fun o => (KA.alloc o).cell 2
          clear hg
          by_cases h0 : ch - pa = 0
          · go_wp2_with fail
            go_ret
            exact ⟨rfl, below_alloc KL.out _⟩
          · have ho := HAT.out
            obtain ⟨m', hpm, hz⟩ := pay_all HIS.out (by rw [← HCH.out, ← HPA.out]; omega)
            rw [← HCH.out, ← HPA.out] at hpm
            have hfm : Fine m' := by have h := fine_pay HF.out t (ch - pa); rw [hpm] at h; exact h
            have KF := Lib.hid hfm
            have hrng : -9223372036854775808 ≤ ch - pa ∧ ch - pa ≤ 9223372036854775807 := by omega
            have HR := Lib.hid hrng
            have KP := Lib.hid hpm
            clear ho hpm hfm hrng
            have KZ := Lib.hid hz
            clear hz
            go_wp2_with fail
            refine (pay_any p b l t (ch - pa) _ (KB.out.alloc _) HF.out HR.out HT.out).mono ?_
            rw [KP.out]
            rintro e w8 ⟨rfl, hB, hg⟩
            replace KB := Lib.hid hB
            replace KL := Lib.hid (below_grown (below_alloc KL.out (.cells #[.string t, .int .i64 ch, .int .i64 pa] 33)) hg HLB.out (below_alloc KL.out _).size)
            have hz := KZ.out
            clear hB hg x0 x1 x2 KA KZ
            go_wp2_with fail
            obtain ⟨M, hM⟩ : ∃ M, M = max th 0 := ⟨_, rfl⟩
            rw [← hM]
            have hM0 : 0 ≤ M := by omega
            clear hM
            refine (listed_any p b m' M w8 KB.out KF.out).mono ?_
            rintro e w9 ⟨v9, rfl, hrow, hg⟩
            obtain ⟨Af, cf, rfl, hcf, hCf⟩ := C_strings hrow
            have hnot := list_not KF.out hz (th := M) hM0
            replace KB := Lib.hid (KB.out.kept hg (by simp) (by simp))
            replace KL := Lib.hid (below_none KL.out hg KL.out.size)
            obtain ⟨free, hfree⟩ : ∃ x, x = listS m' M := ⟨_, rfl⟩
            rw [← hfree] at hCf hcf hnot ⊢
            have KC := Lib.hid hCf
            have KN := Lib.hid hnot
            have KZ := Lib.hid hz
            have hfl : free.length ≤ 9223372036854775807 := hCf.2.1
            clear hrow hg hCf hnot hfree hz
            go_wp2
            go_loopw [23, 24] (fun lv iv wr => ∃ i : Nat, i ≤ free.length ∧ iv = .int .i64 i ∧ lv = .bool false ∧ wr = w9) (fun _ iv _ => free.length - (intOf iv).toNat)
            case atStart => exact ⟨0, Nat.zero_le _, rfl, rfl, rfl⟩
            case round =>
              obtain ⟨i, hi, rfl, rfl, rfl⟩ := hrel
              by_cases hlt : i < free.length
              · obtain ⟨ad, e0, hy0⟩ := Kd.at_string KC.out (i : Int) (by omega) (by omega)
                subst e0
                obtain ⟨x, hx⟩ : ∃ x, x = free[i] := ⟨_, rfl⟩
                have hrd : rdOf ByteArray.empty free (i : Int) = x := by rw [hx]; simp [rdOf, hlt]
                rw [Int.toNat_natCast, hrd] at hy0
                have hne : (x.toList == t.toList) = false := by
                  rw [beq_eq_false_iff_ne, toL_eq, toL_eq]
                  exact fun e => KN.out x (by rw [hx]; exact List.getElem_mem _) (toL_inj e)
                have hil : (i : Int) < (free.length : Int) := by omega
                clear hrd hx
                go_wp2
                refine ⟨⟨i + 1, by omega, by go_num, rfl, trivial⟩, by simp [intOf]; omega⟩
              · go_wp2_with fail
                refine (debt_any p b m' t _ KB.out KF.out HT.out).mono ?_
                rw [KZ.out]
                rintro e w10 ⟨rfl, hg⟩
                replace KL := Lib.hid (below_none KL.out hg KL.out.size)
                clear hg KB KC
                go_wp2
                go_ret
                exact ⟨rfl, KL.out⟩
  · go_wp2
    go_ret
    exact ⟨by simp [hne], L2.out⟩
end Go.Proofs.Ytbfpggghcdfghaa.Hand
