/- The walk of DebtApart. -/
import Derived.Test.YtbfpggghcdfghaaHandG
namespace Go.Proofs.Ytbfpggghcdfghaa.Hand
open Go.RowKit Go.Maps Go.Sort Go.Proofs.YtbfpggghcdfghaaW.PrintWords Go.Proofs.Ytbfpggghcdfghaa.PA

structure PQ (w0 : World) (p b q d : Nat) (m n : List Acct) (wr : World) : Prop where
  bp : Bk wr p b m
  bq : Bk wr q d n
  fm : Fine m
  fn : Fine n
  bel : Below w0.heap.size w0 wr
structure Apt (w0 : World) (p b q d : Nat) : Prop where
  lb : w0.heap.size ≤ b
  ld : w0.heap.size ≤ d
  pd : p ≠ d
  qb : q ≠ b
  bd : b ≠ d
theorem PQ.stepP {w0 wr w' : World} {p b q d : Nat} {m n m' : List Acct} (h : PQ w0 p b q d m n wr) (ha : Apt w0 p b q d) (hB : Bk w' p b m') (hf : Fine m') (hg : wr.grownBy w' (some b)) : PQ w0 p b q d m' n w' :=
  ⟨hB, h.bq.kept hg (by simpa using ha.qb) (by simpa using ha.bd.symm), hf, h.fn, below_grown h.bel hg ha.lb h.bel.size⟩
theorem PQ.stepQ {w0 wr w' : World} {p b q d : Nat} {m n n' : List Acct} (h : PQ w0 p b q d m n wr) (ha : Apt w0 p b q d) (hB : Bk w' q d n') (hf : Fine n') (hg : wr.grownBy w' (some d)) : PQ w0 p b q d m n' w' :=
  ⟨h.bp.kept hg (by simpa using ha.pd) (by simpa using ha.bd), hB, h.fm, hf, below_grown h.bel hg ha.ld h.bel.size⟩
theorem PQ.none {w0 wr w' : World} {p b q d : Nat} {m n : List Acct} (h : PQ w0 p b q d m n wr) (hg : wr.grownBy w' none) : PQ w0 p b q d m n w' :=
  ⟨h.bp.kept hg (by simp) (by simp), h.bq.kept hg (by simp) (by simp), h.fm, h.fn, below_none h.bel hg h.bel.size⟩
def pre (l : List OpT) : List OpT := l.take 60
theorem pre_get (l : List OpT) (k : Nat) (hk : k < l.length) (h60 : (k : Int) < 60) : ∃ h : k < (pre l).length, (pre l)[k] = l[k] := by
  have : k < (pre l).length := by unfold pre; rw [List.length_take]; omega
  exact ⟨this, by simp [pre]⟩
theorem pre_all (l : List OpT) (k : Nat) (_ : k ≤ (pre l).length) (h : ¬ (k < l.length ∧ (k : Int) < 60)) : (pre l).take k = pre l := by
  apply List.take_of_length_le
  unfold pre
  rw [List.length_take]
  omega
theorem C_all {α : Type} {d : Kd α} {enc : α → List Value} (hK : ∀ w x, d.K w x (enc x)) {w : World} {base : Nat} {e : TypeId} {s : Nat} (hs : s = d.sz) {v : Value} {l : List α} (h : w.ownsRow base e s v l.length (l.flatMap enc)) :
    ∃ A c, v = .slice A l.length c ∧ l.length ≤ c ∧ d.C w A l.length l := by
  subst hs
  exact C_of_own enc hK h
set_option maxHeartbeats 40000000 in
set_option maxRecDepth 20000 in
theorem apart_any (a bb : ByteArray) (A1 : Option Addr) (c1 : Nat) (l1 : List OpT) (A2 : Option Addr) (c2 : Nat) (l2 : List OpT) (w : World)
    (hr1 : kOp.C w A1 l1.length l1) (hN1 : ∀ x ∈ l1, -9223372036854775808 ≤ x.2.1 ∧ x.2.1 ≤ 9223372036854775807)
    (hr2 : kOp.C w A2 l2.length l2) (hN2 : ∀ x ∈ l2, -9223372036854775808 ≤ x.2.1 ∧ x.2.1 ≤ 9223372036854775807) (hta : a.size ≤ maxLen) (htb : bb.size ≤ maxLen) :
    Calls Try.prog 4 #[.string a, .string bb, .slice A1 l1.length c1, .slice A2 l2.length c2] w fun e w' => e = .returned (.bool true) ∧ Below w.heap.size w w' := by
  have HC1 := Lib.hid hr1
  have HC2 := Lib.hid hr2
  have HN1 := Lib.hid hN1
  have HN2 := Lib.hid hN2
  have HA := Lib.hid hta
  have HB := Lib.hid htb
  have hl1 : l1.length ≤ 9223372036854775807 := hr1.2.1
  have hl2 : l2.length ≤ 9223372036854775807 := hr2.2.1
  clear hr1 hr2 hN1 hN2 hta htb
  go_enter Try.func4, Try.ntmps4
  go_wp2_with fail
  refine (awake_any w).mono ?_
  rintro e w1 ⟨rfl, hb⟩
  have L1 := Lib.hid hb
  clear hb
  go_wp2_with fail
  refine (new_any w1).mono ?_
  rintro e w2 ⟨rfl, hB, hg⟩
  obtain ⟨p, hp⟩ : ∃ p, p = w1.heap.size + 1 := ⟨_, rfl⟩
  obtain ⟨b, hb⟩ : ∃ b, b = w1.heap.size := ⟨_, rfl⟩
  rw [← hp, ← hb] at hB
  rw [← hp]
  have L2 := Lib.hid (below_none L1.out hg L1.out.size)
  have n0 : w.heap.size ≤ b := by rw [hb]; exact L1.out.size
  have n1 := Lib.hid (show p = b + 1 by rw [hp, hb])
  have K2 := Lib.hid hB
  clear hB hg hp hb L1
  go_wp2_with fail
  refine (new_any w2).mono ?_
  rintro e w3 ⟨rfl, hB, hg⟩
  obtain ⟨q, hq⟩ : ∃ p, p = w2.heap.size + 1 := ⟨_, rfl⟩
  obtain ⟨d, hd⟩ : ∃ b, b = w2.heap.size := ⟨_, rfl⟩
  have n2 : p < d := by rw [hd]; exact K2.out.ltp
  rw [← hq, ← hd] at hB
  rw [← hq]
  have n3 : q = d + 1 := by rw [hq, hd]
  have hP := Lib.hid (show PQ w p b q d [] [] w3 from ⟨K2.out.kept hg (by simp) (by simp), hB, fine_nil, fine_nil, below_none L2.out hg L2.out.size⟩)
  have hT := Lib.hid (show Apt w p b q d from by have n1' := n1.out; exact ⟨n0, by omega, by omega, by omega, by omega⟩)
  clear K2 L2 hB hg hq hd n0 n1 n2 n3
  by_cases hab : a = bb
  · subst hab
    go_wp2
    go_ret
    exact ⟨rfl, hP.out.bel⟩
  · have hne : (a.toList == bb.toList) = false := by
      rw [beq_eq_false_iff_ne, toL_eq, toL_eq]
      exact fun e => hab (toL_inj e)
    have HNE := Lib.hid hab
    clear hab
    go_wp2
    go_loopw [12] (fun i wr => ∃ k : Nat, k ≤ (pre l1).length ∧ i = .int .i64 k ∧ PQ w p b q d (run a [] ((pre l1).take k)) [] wr) (fun i _ => l1.length - (intOf i).toNat)
    case atStart => exact ⟨0, Nat.zero_le _, rfl, hP.out⟩
    case round =>
      obtain ⟨k, hk, rfl, hR⟩ := hrel
      clear hP
      have hP := Lib.hid hR
      clear hR
      by_cases hin : k < l1.length ∧ (k : Int) < 60
      · obtain ⟨hlt, h60⟩ := hin
        obtain ⟨ad, e0, hx0, hx1, hx2⟩ := at_op (Kd.C_below HC1.out hP.out.bel) hlt
        subst e0
        obtain ⟨hkp, hpe⟩ := pre_get l1 k hlt h60
        obtain ⟨x, hxe⟩ : ∃ x, x = l1[k] := ⟨_, rfl⟩
        have hxn := HN1.out x (by rw [hxe]; exact List.getElem_mem _)
        rw [← hxe] at hx0 hx1 hx2 hpe
        have HX := Lib.hid hpe
        have HXN := Lib.hid hxn
        clear hxe hpe hxn
        go_wp2_with fail
        have hch := change_any p b _ a x _ hP.out.bp hP.out.fm HXN.out HA.out
        refine hch.mono ?_
        clear hch
        rintro e w4 ⟨v4, rfl, hB4, hg4⟩
        replace hP := Lib.hid (hP.out.stepP hT.out hB4 (fine_chg hP.out.fm _ _) hg4)
        clear hx0 hx1 hx2 hB4 hg4
        go_wp2
        refine ⟨⟨k + 1, hkp, by go_num, ?_⟩, by simp [intOf]; omega⟩
        rw [run_snoc _ _ _ k hkp, HX.out]
        exact hP.out
      · have hall := pre_all l1 k hk hin
        rw [hall] at hP
        clear hall
        have hin2 : (decide ((k : Int) < (l1.length : Int)) && decide ((k : Int) < 60)) = false := by
          rw [Bool.and_eq_false_iff]
          by_cases h : k < l1.length
          · exact .inr (decide_eq_false (fun h6 => hin ⟨h, h6⟩))
          · exact .inl (decide_eq_false (by omega))
        by_cases hlt : k < l1.length
        · have h60 : ¬ (k : Int) < 60 := fun h => hin ⟨hlt, h⟩
          go_wp2_with fail
          go_loopw [13] (fun i wr => ∃ k : Nat, k ≤ (pre l2).length ∧ i = .int .i64 k ∧ PQ w p b q d (run bb (run a [] (pre l1)) ((pre l2).take k)) (run bb [] ((pre l2).take k)) wr) (fun i _ => l2.length - (intOf i).toNat)
          case atStart => exact ⟨0, Nat.zero_le _, rfl, hP.out⟩
          case round =>
            obtain ⟨k, hk, rfl, hR⟩ := hrel
            clear hP
            have hP := Lib.hid hR
            clear hR
            by_cases hin : k < l2.length ∧ (k : Int) < 60
            · obtain ⟨hlt, h60⟩ := hin
              obtain ⟨ad, e0, hx0, hx1, hx2⟩ := at_op (Kd.C_below HC2.out hP.out.bel) hlt
              subst e0
              obtain ⟨hkp, hpe⟩ := pre_get l2 k hlt h60
              obtain ⟨x, hxe⟩ : ∃ x, x = l2[k] := ⟨_, rfl⟩
              have hxn := HN2.out x (by rw [hxe]; exact List.getElem_mem _)
              rw [← hxe] at hx0 hx1 hx2 hpe
              have HX := Lib.hid hpe
              have HXN := Lib.hid hxn
              clear hxe hpe hxn
              go_wp2_with fail
              have hch := change_any p b _ bb x _ hP.out.bp hP.out.fm HXN.out HB.out
              refine hch.mono ?_
              clear hch
              rintro e w4 ⟨v4, rfl, hB4, hg4⟩
              replace hP := Lib.hid (hP.out.stepP hT.out hB4 (fine_chg hP.out.fm _ _) hg4)
              obtain ⟨ad2, e2, hy0, hy1, hy2⟩ := at_op (Kd.C_below HC2.out hP.out.bel) hlt
              injection e2 with e2
              subst e2
              have hxx : l2[k] = x := by rw [← HX.out]; simp [pre]
              rw [hxx] at hy0 hy1 hy2
              clear hx0 hx1 hx2 hB4 hg4 hxx
              go_wp2_with fail
              have hch := change_any q d _ bb x _ hP.out.bq hP.out.fn HXN.out HB.out
              refine hch.mono ?_
              clear hch
              rintro e w5 ⟨v5, rfl, hB5, hg5⟩
              replace hP := Lib.hid (hP.out.stepQ hT.out hB5 (fine_chg hP.out.fn _ _) hg5)
              clear hy0 hy1 hy2 hB5 hg5
              go_wp2
              refine ⟨⟨k + 1, hkp, by go_num, ?_⟩, by simp [intOf]; omega⟩
              rw [run_snoc _ _ _ k hkp, run_snoc _ _ _ k hkp, HX.out]
              exact hP.out
            · have hall := pre_all l2 k hk hin
              rw [hall] at hP
              clear hall
              have hin2 : (decide ((k : Int) < (l2.length : Int)) && decide ((k : Int) < 60)) = false := by
                rw [Bool.and_eq_false_iff]
                by_cases h : k < l2.length
                · exact .inr (decide_eq_false (fun h6 => hin ⟨h, h6⟩))
                · exact .inl (decide_eq_false (by omega))
              by_cases hlt : k < l2.length
              · have h60 : ¬ (k : Int) < 60 := fun h => hin ⟨hlt, h⟩
                go_wp2_with fail
                go_loopw [14] (fun i wr => ∃ k : Nat, k ≤ (pre l1).length ∧ i = .int .i64 k ∧ PQ w p b q d (run bb (run a [] (pre l1)) (pre l2)) (run a (run bb [] (pre l2)) ((pre l1).take k)) wr) (fun i _ => l1.length - (intOf i).toNat)
                case atStart => exact ⟨0, Nat.zero_le _, rfl, hP.out⟩
                case round =>
                  obtain ⟨k, hk, rfl, hR⟩ := hrel
                  clear hP
                  have hP := Lib.hid hR
                  clear hR
                  by_cases hin : k < l1.length ∧ (k : Int) < 60
                  · obtain ⟨hlt, h60⟩ := hin
                    obtain ⟨ad, e0, hx0, hx1, hx2⟩ := at_op (Kd.C_below HC1.out hP.out.bel) hlt
                    subst e0
                    obtain ⟨hkp, hpe⟩ := pre_get l1 k hlt h60
                    obtain ⟨x, hxe⟩ : ∃ x, x = l1[k] := ⟨_, rfl⟩
                    have hxn := HN1.out x (by rw [hxe]; exact List.getElem_mem _)
                    rw [← hxe] at hx0 hx1 hx2 hpe
                    have HX := Lib.hid hpe
                    have HXN := Lib.hid hxn
                    clear hxe hpe hxn
                    go_wp2_with fail
                    have hch := change_any q d _ a x _ hP.out.bq hP.out.fn HXN.out HA.out
                    refine hch.mono ?_
                    clear hch
                    rintro e w5 ⟨v5, rfl, hB5, hg5⟩
                    replace hP := Lib.hid (hP.out.stepQ hT.out hB5 (fine_chg hP.out.fn _ _) hg5)
                    clear hx0 hx1 hx2 hB5 hg5
                    go_wp2
                    refine ⟨⟨k + 1, hkp, by go_num, ?_⟩, by simp [intOf]; omega⟩
                    rw [run_snoc _ _ _ k hkp, HX.out]
                    exact hP.out
                  · have hall := pre_all l1 k hk hin
                    rw [hall] at hP
                    clear hall
                    have hin2 : (decide ((k : Int) < (l1.length : Int)) && decide ((k : Int) < 60)) = false := by
                      rw [Bool.and_eq_false_iff]
                      by_cases h : k < l1.length
                      · exact .inr (decide_eq_false (fun h6 => hin ⟨h, h6⟩))
                      · exact .inl (decide_eq_false (by omega))
                    by_cases hlt : k < l1.length
                    · have h60 : ¬ (k : Int) < 60 := fun h => hin ⟨hlt, h⟩
                      go_wp2_with fail
                      have hcm := run_comm HNE.out (pre l1) (pre l2)
                      rw [← hcm] at hP
                      clear hcm
                      obtain ⟨M, hM⟩ : ∃ M, M = run bb (run a [] (pre l1)) (pre l2) := ⟨_, rfl⟩
                      rw [← hM] at hP
                      clear hM
                      refine (accounts_any p b M _ hP.out.bp hP.out.fm).mono ?_
                      rintro e w6 ⟨v6, rfl, hr6, hg6⟩
                      replace hP := Lib.hid (hP.out.none hg6)
                      obtain ⟨A6, c6, rfl, hc6, hC6⟩ := C_all (d := kAc) kAc_mk rfl hr6
                      clear hr6 hg6
                      go_wp2_with fail
                      refine (accounts_any q d M _ hP.out.bq hP.out.fn).mono ?_
                      rintro e w7 ⟨v7, rfl, hr7, hg7⟩
                      replace hP := Lib.hid (hP.out.none hg7)
                      obtain ⟨A7, c7, rfl, hc7, hC7⟩ := C_all (d := kAc) kAc_mk rfl hr7
                      have hC6' := Kd.C_below hC6 ⟨hg7.os, hg7.tape, hg7.output, hg7.size, fun j hj => hg7.block j hj (by simp)⟩
                      clear hr7 hg7 hC6
                      go_wp2_with fail
                      refine (same_any A6 A7 c6 c7 M _ hC6' hc6 hC7 hc7).mono ?_
                      rintro e w8 ⟨rfl, hg8⟩
                      replace hP := Lib.hid (hP.out.none hg8)
                      clear hC6' hC7 hg8
                      go_wp2
                      go_ret
                      exact ⟨rfl, hP.out.bel⟩
                    · go_wp2_with fail
                      have hcm := run_comm HNE.out (pre l1) (pre l2)
                      rw [← hcm] at hP
                      clear hcm
                      obtain ⟨M, hM⟩ : ∃ M, M = run bb (run a [] (pre l1)) (pre l2) := ⟨_, rfl⟩
                      rw [← hM] at hP
                      clear hM
                      refine (accounts_any p b M _ hP.out.bp hP.out.fm).mono ?_
                      rintro e w6 ⟨v6, rfl, hr6, hg6⟩
                      replace hP := Lib.hid (hP.out.none hg6)
                      obtain ⟨A6, c6, rfl, hc6, hC6⟩ := C_all (d := kAc) kAc_mk rfl hr6
                      clear hr6 hg6
                      go_wp2_with fail
                      refine (accounts_any q d M _ hP.out.bq hP.out.fn).mono ?_
                      rintro e w7 ⟨v7, rfl, hr7, hg7⟩
                      replace hP := Lib.hid (hP.out.none hg7)
                      obtain ⟨A7, c7, rfl, hc7, hC7⟩ := C_all (d := kAc) kAc_mk rfl hr7
                      have hC6' := Kd.C_below hC6 ⟨hg7.os, hg7.tape, hg7.output, hg7.size, fun j hj => hg7.block j hj (by simp)⟩
                      clear hr7 hg7 hC6
                      go_wp2_with fail
                      refine (same_any A6 A7 c6 c7 M _ hC6' hc6 hC7 hc7).mono ?_
                      rintro e w8 ⟨rfl, hg8⟩
                      replace hP := Lib.hid (hP.out.none hg8)
                      clear hC6' hC7 hg8
                      go_wp2
                      go_ret
                      exact ⟨rfl, hP.out.bel⟩
              · go_wp2_with fail
                go_loopw [14] (fun i wr => ∃ k : Nat, k ≤ (pre l1).length ∧ i = .int .i64 k ∧ PQ w p b q d (run bb (run a [] (pre l1)) (pre l2)) (run a (run bb [] (pre l2)) ((pre l1).take k)) wr) (fun i _ => l1.length - (intOf i).toNat)
                case atStart => exact ⟨0, Nat.zero_le _, rfl, hP.out⟩
                case round =>
                  obtain ⟨k, hk, rfl, hR⟩ := hrel
                  clear hP
                  have hP := Lib.hid hR
                  clear hR
                  by_cases hin : k < l1.length ∧ (k : Int) < 60
                  · obtain ⟨hlt, h60⟩ := hin
                    obtain ⟨ad, e0, hx0, hx1, hx2⟩ := at_op (Kd.C_below HC1.out hP.out.bel) hlt
                    subst e0
                    obtain ⟨hkp, hpe⟩ := pre_get l1 k hlt h60
                    obtain ⟨x, hxe⟩ : ∃ x, x = l1[k] := ⟨_, rfl⟩
                    have hxn := HN1.out x (by rw [hxe]; exact List.getElem_mem _)
                    rw [← hxe] at hx0 hx1 hx2 hpe
                    have HX := Lib.hid hpe
                    have HXN := Lib.hid hxn
                    clear hxe hpe hxn
                    go_wp2_with fail
                    have hch := change_any q d _ a x _ hP.out.bq hP.out.fn HXN.out HA.out
                    refine hch.mono ?_
                    clear hch
                    rintro e w5 ⟨v5, rfl, hB5, hg5⟩
                    replace hP := Lib.hid (hP.out.stepQ hT.out hB5 (fine_chg hP.out.fn _ _) hg5)
                    clear hx0 hx1 hx2 hB5 hg5
                    go_wp2
                    refine ⟨⟨k + 1, hkp, by go_num, ?_⟩, by simp [intOf]; omega⟩
                    rw [run_snoc _ _ _ k hkp, HX.out]
                    exact hP.out
                  · have hall := pre_all l1 k hk hin
                    rw [hall] at hP
                    clear hall
                    have hin2 : (decide ((k : Int) < (l1.length : Int)) && decide ((k : Int) < 60)) = false := by
                      rw [Bool.and_eq_false_iff]
                      by_cases h : k < l1.length
                      · exact .inr (decide_eq_false (fun h6 => hin ⟨h, h6⟩))
                      · exact .inl (decide_eq_false (by omega))
                    by_cases hlt : k < l1.length
                    · have h60 : ¬ (k : Int) < 60 := fun h => hin ⟨hlt, h⟩
                      go_wp2_with fail
                      have hcm := run_comm HNE.out (pre l1) (pre l2)
                      rw [← hcm] at hP
                      clear hcm
                      obtain ⟨M, hM⟩ : ∃ M, M = run bb (run a [] (pre l1)) (pre l2) := ⟨_, rfl⟩
                      rw [← hM] at hP
                      clear hM
                      refine (accounts_any p b M _ hP.out.bp hP.out.fm).mono ?_
                      rintro e w6 ⟨v6, rfl, hr6, hg6⟩
                      replace hP := Lib.hid (hP.out.none hg6)
                      obtain ⟨A6, c6, rfl, hc6, hC6⟩ := C_all (d := kAc) kAc_mk rfl hr6
                      clear hr6 hg6
                      go_wp2_with fail
                      refine (accounts_any q d M _ hP.out.bq hP.out.fn).mono ?_
                      rintro e w7 ⟨v7, rfl, hr7, hg7⟩
                      replace hP := Lib.hid (hP.out.none hg7)
                      obtain ⟨A7, c7, rfl, hc7, hC7⟩ := C_all (d := kAc) kAc_mk rfl hr7
                      have hC6' := Kd.C_below hC6 ⟨hg7.os, hg7.tape, hg7.output, hg7.size, fun j hj => hg7.block j hj (by simp)⟩
                      clear hr7 hg7 hC6
                      go_wp2_with fail
                      refine (same_any A6 A7 c6 c7 M _ hC6' hc6 hC7 hc7).mono ?_
                      rintro e w8 ⟨rfl, hg8⟩
                      replace hP := Lib.hid (hP.out.none hg8)
                      clear hC6' hC7 hg8
                      go_wp2
                      go_ret
                      exact ⟨rfl, hP.out.bel⟩
                    · go_wp2_with fail
                      have hcm := run_comm HNE.out (pre l1) (pre l2)
                      rw [← hcm] at hP
                      clear hcm
                      obtain ⟨M, hM⟩ : ∃ M, M = run bb (run a [] (pre l1)) (pre l2) := ⟨_, rfl⟩
                      rw [← hM] at hP
                      clear hM
                      refine (accounts_any p b M _ hP.out.bp hP.out.fm).mono ?_
                      rintro e w6 ⟨v6, rfl, hr6, hg6⟩
                      replace hP := Lib.hid (hP.out.none hg6)
                      obtain ⟨A6, c6, rfl, hc6, hC6⟩ := C_all (d := kAc) kAc_mk rfl hr6
                      clear hr6 hg6
                      go_wp2_with fail
                      refine (accounts_any q d M _ hP.out.bq hP.out.fn).mono ?_
                      rintro e w7 ⟨v7, rfl, hr7, hg7⟩
                      replace hP := Lib.hid (hP.out.none hg7)
                      obtain ⟨A7, c7, rfl, hc7, hC7⟩ := C_all (d := kAc) kAc_mk rfl hr7
                      have hC6' := Kd.C_below hC6 ⟨hg7.os, hg7.tape, hg7.output, hg7.size, fun j hj => hg7.block j hj (by simp)⟩
                      clear hr7 hg7 hC6
                      go_wp2_with fail
                      refine (same_any A6 A7 c6 c7 M _ hC6' hc6 hC7 hc7).mono ?_
                      rintro e w8 ⟨rfl, hg8⟩
                      replace hP := Lib.hid (hP.out.none hg8)
                      clear hC6' hC7 hg8
                      go_wp2
                      go_ret
                      exact ⟨rfl, hP.out.bel⟩
        · go_wp2_with fail
          go_loopw [13] (fun i wr => ∃ k : Nat, k ≤ (pre l2).length ∧ i = .int .i64 k ∧ PQ w p b q d (run bb (run a [] (pre l1)) ((pre l2).take k)) (run bb [] ((pre l2).take k)) wr) (fun i _ => l2.length - (intOf i).toNat)
          case atStart => exact ⟨0, Nat.zero_le _, rfl, hP.out⟩
          case round =>
            obtain ⟨k, hk, rfl, hR⟩ := hrel
            clear hP
            have hP := Lib.hid hR
            clear hR
            by_cases hin : k < l2.length ∧ (k : Int) < 60
            · obtain ⟨hlt, h60⟩ := hin
              obtain ⟨ad, e0, hx0, hx1, hx2⟩ := at_op (Kd.C_below HC2.out hP.out.bel) hlt
              subst e0
              obtain ⟨hkp, hpe⟩ := pre_get l2 k hlt h60
              obtain ⟨x, hxe⟩ : ∃ x, x = l2[k] := ⟨_, rfl⟩
              have hxn := HN2.out x (by rw [hxe]; exact List.getElem_mem _)
              rw [← hxe] at hx0 hx1 hx2 hpe
              have HX := Lib.hid hpe
              have HXN := Lib.hid hxn
              clear hxe hpe hxn
              go_wp2_with fail
              have hch := change_any p b _ bb x _ hP.out.bp hP.out.fm HXN.out HB.out
              refine hch.mono ?_
              clear hch
              rintro e w4 ⟨v4, rfl, hB4, hg4⟩
              replace hP := Lib.hid (hP.out.stepP hT.out hB4 (fine_chg hP.out.fm _ _) hg4)
              obtain ⟨ad2, e2, hy0, hy1, hy2⟩ := at_op (Kd.C_below HC2.out hP.out.bel) hlt
              injection e2 with e2
              subst e2
              have hxx : l2[k] = x := by rw [← HX.out]; simp [pre]
              rw [hxx] at hy0 hy1 hy2
              clear hx0 hx1 hx2 hB4 hg4 hxx
              go_wp2_with fail
              have hch := change_any q d _ bb x _ hP.out.bq hP.out.fn HXN.out HB.out
              refine hch.mono ?_
              clear hch
              rintro e w5 ⟨v5, rfl, hB5, hg5⟩
              replace hP := Lib.hid (hP.out.stepQ hT.out hB5 (fine_chg hP.out.fn _ _) hg5)
              clear hy0 hy1 hy2 hB5 hg5
              go_wp2
              refine ⟨⟨k + 1, hkp, by go_num, ?_⟩, by simp [intOf]; omega⟩
              rw [run_snoc _ _ _ k hkp, run_snoc _ _ _ k hkp, HX.out]
              exact hP.out
            · have hall := pre_all l2 k hk hin
              rw [hall] at hP
              clear hall
              have hin2 : (decide ((k : Int) < (l2.length : Int)) && decide ((k : Int) < 60)) = false := by
                rw [Bool.and_eq_false_iff]
                by_cases h : k < l2.length
                · exact .inr (decide_eq_false (fun h6 => hin ⟨h, h6⟩))
                · exact .inl (decide_eq_false (by omega))
              by_cases hlt : k < l2.length
              · have h60 : ¬ (k : Int) < 60 := fun h => hin ⟨hlt, h⟩
                go_wp2_with fail
                go_loopw [14] (fun i wr => ∃ k : Nat, k ≤ (pre l1).length ∧ i = .int .i64 k ∧ PQ w p b q d (run bb (run a [] (pre l1)) (pre l2)) (run a (run bb [] (pre l2)) ((pre l1).take k)) wr) (fun i _ => l1.length - (intOf i).toNat)
                case atStart => exact ⟨0, Nat.zero_le _, rfl, hP.out⟩
                case round =>
                  obtain ⟨k, hk, rfl, hR⟩ := hrel
                  clear hP
                  have hP := Lib.hid hR
                  clear hR
                  by_cases hin : k < l1.length ∧ (k : Int) < 60
                  · obtain ⟨hlt, h60⟩ := hin
                    obtain ⟨ad, e0, hx0, hx1, hx2⟩ := at_op (Kd.C_below HC1.out hP.out.bel) hlt
                    subst e0
                    obtain ⟨hkp, hpe⟩ := pre_get l1 k hlt h60
                    obtain ⟨x, hxe⟩ : ∃ x, x = l1[k] := ⟨_, rfl⟩
                    have hxn := HN1.out x (by rw [hxe]; exact List.getElem_mem _)
                    rw [← hxe] at hx0 hx1 hx2 hpe
                    have HX := Lib.hid hpe
                    have HXN := Lib.hid hxn
                    clear hxe hpe hxn
                    go_wp2_with fail
                    have hch := change_any q d _ a x _ hP.out.bq hP.out.fn HXN.out HA.out
                    refine hch.mono ?_
                    clear hch
                    rintro e w5 ⟨v5, rfl, hB5, hg5⟩
                    replace hP := Lib.hid (hP.out.stepQ hT.out hB5 (fine_chg hP.out.fn _ _) hg5)
                    clear hx0 hx1 hx2 hB5 hg5
                    go_wp2
                    refine ⟨⟨k + 1, hkp, by go_num, ?_⟩, by simp [intOf]; omega⟩
                    rw [run_snoc _ _ _ k hkp, HX.out]
                    exact hP.out
                  · have hall := pre_all l1 k hk hin
                    rw [hall] at hP
                    clear hall
                    have hin2 : (decide ((k : Int) < (l1.length : Int)) && decide ((k : Int) < 60)) = false := by
                      rw [Bool.and_eq_false_iff]
                      by_cases h : k < l1.length
                      · exact .inr (decide_eq_false (fun h6 => hin ⟨h, h6⟩))
                      · exact .inl (decide_eq_false (by omega))
                    by_cases hlt : k < l1.length
                    · have h60 : ¬ (k : Int) < 60 := fun h => hin ⟨hlt, h⟩
                      go_wp2_with fail
                      have hcm := run_comm HNE.out (pre l1) (pre l2)
                      rw [← hcm] at hP
                      clear hcm
                      obtain ⟨M, hM⟩ : ∃ M, M = run bb (run a [] (pre l1)) (pre l2) := ⟨_, rfl⟩
                      rw [← hM] at hP
                      clear hM
                      refine (accounts_any p b M _ hP.out.bp hP.out.fm).mono ?_
                      rintro e w6 ⟨v6, rfl, hr6, hg6⟩
                      replace hP := Lib.hid (hP.out.none hg6)
                      obtain ⟨A6, c6, rfl, hc6, hC6⟩ := C_all (d := kAc) kAc_mk rfl hr6
                      clear hr6 hg6
                      go_wp2_with fail
                      refine (accounts_any q d M _ hP.out.bq hP.out.fn).mono ?_
                      rintro e w7 ⟨v7, rfl, hr7, hg7⟩
                      replace hP := Lib.hid (hP.out.none hg7)
                      obtain ⟨A7, c7, rfl, hc7, hC7⟩ := C_all (d := kAc) kAc_mk rfl hr7
                      have hC6' := Kd.C_below hC6 ⟨hg7.os, hg7.tape, hg7.output, hg7.size, fun j hj => hg7.block j hj (by simp)⟩
                      clear hr7 hg7 hC6
                      go_wp2_with fail
                      refine (same_any A6 A7 c6 c7 M _ hC6' hc6 hC7 hc7).mono ?_
                      rintro e w8 ⟨rfl, hg8⟩
                      replace hP := Lib.hid (hP.out.none hg8)
                      clear hC6' hC7 hg8
                      go_wp2
                      go_ret
                      exact ⟨rfl, hP.out.bel⟩
                    · go_wp2_with fail
                      have hcm := run_comm HNE.out (pre l1) (pre l2)
                      rw [← hcm] at hP
                      clear hcm
                      obtain ⟨M, hM⟩ : ∃ M, M = run bb (run a [] (pre l1)) (pre l2) := ⟨_, rfl⟩
                      rw [← hM] at hP
                      clear hM
                      refine (accounts_any p b M _ hP.out.bp hP.out.fm).mono ?_
                      rintro e w6 ⟨v6, rfl, hr6, hg6⟩
                      replace hP := Lib.hid (hP.out.none hg6)
                      obtain ⟨A6, c6, rfl, hc6, hC6⟩ := C_all (d := kAc) kAc_mk rfl hr6
                      clear hr6 hg6
                      go_wp2_with fail
                      refine (accounts_any q d M _ hP.out.bq hP.out.fn).mono ?_
                      rintro e w7 ⟨v7, rfl, hr7, hg7⟩
                      replace hP := Lib.hid (hP.out.none hg7)
                      obtain ⟨A7, c7, rfl, hc7, hC7⟩ := C_all (d := kAc) kAc_mk rfl hr7
                      have hC6' := Kd.C_below hC6 ⟨hg7.os, hg7.tape, hg7.output, hg7.size, fun j hj => hg7.block j hj (by simp)⟩
                      clear hr7 hg7 hC6
                      go_wp2_with fail
                      refine (same_any A6 A7 c6 c7 M _ hC6' hc6 hC7 hc7).mono ?_
                      rintro e w8 ⟨rfl, hg8⟩
                      replace hP := Lib.hid (hP.out.none hg8)
                      clear hC6' hC7 hg8
                      go_wp2
                      go_ret
                      exact ⟨rfl, hP.out.bel⟩
              · go_wp2_with fail
                go_loopw [14] (fun i wr => ∃ k : Nat, k ≤ (pre l1).length ∧ i = .int .i64 k ∧ PQ w p b q d (run bb (run a [] (pre l1)) (pre l2)) (run a (run bb [] (pre l2)) ((pre l1).take k)) wr) (fun i _ => l1.length - (intOf i).toNat)
                case atStart => exact ⟨0, Nat.zero_le _, rfl, hP.out⟩
                case round =>
                  obtain ⟨k, hk, rfl, hR⟩ := hrel
                  clear hP
                  have hP := Lib.hid hR
                  clear hR
                  by_cases hin : k < l1.length ∧ (k : Int) < 60
                  · obtain ⟨hlt, h60⟩ := hin
                    obtain ⟨ad, e0, hx0, hx1, hx2⟩ := at_op (Kd.C_below HC1.out hP.out.bel) hlt
                    subst e0
                    obtain ⟨hkp, hpe⟩ := pre_get l1 k hlt h60
                    obtain ⟨x, hxe⟩ : ∃ x, x = l1[k] := ⟨_, rfl⟩
                    have hxn := HN1.out x (by rw [hxe]; exact List.getElem_mem _)
                    rw [← hxe] at hx0 hx1 hx2 hpe
                    have HX := Lib.hid hpe
                    have HXN := Lib.hid hxn
                    clear hxe hpe hxn
                    go_wp2_with fail
                    have hch := change_any q d _ a x _ hP.out.bq hP.out.fn HXN.out HA.out
                    refine hch.mono ?_
                    clear hch
                    rintro e w5 ⟨v5, rfl, hB5, hg5⟩
                    replace hP := Lib.hid (hP.out.stepQ hT.out hB5 (fine_chg hP.out.fn _ _) hg5)
                    clear hx0 hx1 hx2 hB5 hg5
                    go_wp2
                    refine ⟨⟨k + 1, hkp, by go_num, ?_⟩, by simp [intOf]; omega⟩
                    rw [run_snoc _ _ _ k hkp, HX.out]
                    exact hP.out
                  · have hall := pre_all l1 k hk hin
                    rw [hall] at hP
                    clear hall
                    have hin2 : (decide ((k : Int) < (l1.length : Int)) && decide ((k : Int) < 60)) = false := by
                      rw [Bool.and_eq_false_iff]
                      by_cases h : k < l1.length
                      · exact .inr (decide_eq_false (fun h6 => hin ⟨h, h6⟩))
                      · exact .inl (decide_eq_false (by omega))
                    by_cases hlt : k < l1.length
                    · have h60 : ¬ (k : Int) < 60 := fun h => hin ⟨hlt, h⟩
                      go_wp2_with fail
                      have hcm := run_comm HNE.out (pre l1) (pre l2)
                      rw [← hcm] at hP
                      clear hcm
                      obtain ⟨M, hM⟩ : ∃ M, M = run bb (run a [] (pre l1)) (pre l2) := ⟨_, rfl⟩
                      rw [← hM] at hP
                      clear hM
                      refine (accounts_any p b M _ hP.out.bp hP.out.fm).mono ?_
                      rintro e w6 ⟨v6, rfl, hr6, hg6⟩
                      replace hP := Lib.hid (hP.out.none hg6)
                      obtain ⟨A6, c6, rfl, hc6, hC6⟩ := C_all (d := kAc) kAc_mk rfl hr6
                      clear hr6 hg6
                      go_wp2_with fail
                      refine (accounts_any q d M _ hP.out.bq hP.out.fn).mono ?_
                      rintro e w7 ⟨v7, rfl, hr7, hg7⟩
                      replace hP := Lib.hid (hP.out.none hg7)
                      obtain ⟨A7, c7, rfl, hc7, hC7⟩ := C_all (d := kAc) kAc_mk rfl hr7
                      have hC6' := Kd.C_below hC6 ⟨hg7.os, hg7.tape, hg7.output, hg7.size, fun j hj => hg7.block j hj (by simp)⟩
                      clear hr7 hg7 hC6
                      go_wp2_with fail
                      refine (same_any A6 A7 c6 c7 M _ hC6' hc6 hC7 hc7).mono ?_
                      rintro e w8 ⟨rfl, hg8⟩
                      replace hP := Lib.hid (hP.out.none hg8)
                      clear hC6' hC7 hg8
                      go_wp2
                      go_ret
                      exact ⟨rfl, hP.out.bel⟩
                    · go_wp2_with fail
                      have hcm := run_comm HNE.out (pre l1) (pre l2)
                      rw [← hcm] at hP
                      clear hcm
                      obtain ⟨M, hM⟩ : ∃ M, M = run bb (run a [] (pre l1)) (pre l2) := ⟨_, rfl⟩
                      rw [← hM] at hP
                      clear hM
                      refine (accounts_any p b M _ hP.out.bp hP.out.fm).mono ?_
                      rintro e w6 ⟨v6, rfl, hr6, hg6⟩
                      replace hP := Lib.hid (hP.out.none hg6)
                      obtain ⟨A6, c6, rfl, hc6, hC6⟩ := C_all (d := kAc) kAc_mk rfl hr6
                      clear hr6 hg6
                      go_wp2_with fail
                      refine (accounts_any q d M _ hP.out.bq hP.out.fn).mono ?_
                      rintro e w7 ⟨v7, rfl, hr7, hg7⟩
                      replace hP := Lib.hid (hP.out.none hg7)
                      obtain ⟨A7, c7, rfl, hc7, hC7⟩ := C_all (d := kAc) kAc_mk rfl hr7
                      have hC6' := Kd.C_below hC6 ⟨hg7.os, hg7.tape, hg7.output, hg7.size, fun j hj => hg7.block j hj (by simp)⟩
                      clear hr7 hg7 hC6
                      go_wp2_with fail
                      refine (same_any A6 A7 c6 c7 M _ hC6' hc6 hC7 hc7).mono ?_
                      rintro e w8 ⟨rfl, hg8⟩
                      replace hP := Lib.hid (hP.out.none hg8)
                      clear hC6' hC7 hg8
                      go_wp2
                      go_ret
                      exact ⟨rfl, hP.out.bel⟩
end Go.Proofs.Ytbfpggghcdfghaa.Hand
