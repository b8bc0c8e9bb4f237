/- Lists of calls and of accounts in memory; the walk of DebtSums. -/
import Derived.Test.YtbfpggghcdfghaaHandE
namespace Go.Proofs.Ytbfpggghcdfghaa.Hand
open Go.RowKit Go.Maps Go.Sort Go.Proofs.YtbfpggghcdfghaaW.PrintWords Go.Proofs.Ytbfpggghcdfghaa.PA

abbrev OpT := Int × Int × ByteArray
def kOp : Kd OpT := Kd.pair (Kd.int .i64) (Kd.pair (Kd.int .i64) Kd.string)
def kAc : Kd Acct := Kd.pair Kd.string (Kd.pair (Kd.int .i64) (Kd.int .i64))
theorem kOp_open {w : World} {x : OpT} {cs : List Value} (h : kOp.K w x cs) : cs = [.int .i64 x.1, .int .i64 x.2.1, .string x.2.2] := by
  obtain ⟨_, _, rfl, rfl, ⟨_, _, rfl, rfl, rfl⟩⟩ := h
  exact rfl
theorem kAc_open {w : World} {x : Acct} {cs : List Value} (h : kAc.K w x cs) : cs = [.string x.1, .int .i64 x.2.1, .int .i64 x.2.2] := by
  obtain ⟨_, _, rfl, rfl, ⟨_, _, rfl, rfl, rfl⟩⟩ := h
  exact rfl
def encA (x : Acct) : List Value := [.string x.1, .int .i64 x.2.1, .int .i64 x.2.2]
theorem kAc_mk (w : World) (x : Acct) : kAc.K w x (encA x) := ⟨[.string x.1], [.int .i64 x.2.1, .int .i64 x.2.2], rfl, rfl, ⟨[.int .i64 x.2.1], [.int .i64 x.2.2], rfl, rfl, rfl⟩⟩
theorem at_op {w : World} {A : Option Addr} {l : List OpT} (h : kOp.C w A l.length l) {k : Nat} (hk : k < l.length) : ∃ ad, A = some ad ∧ w.cell? (ad.add (k * 3)) = some (.int .i64 l[k].1) ∧
    w.cell? ⟨(ad.add (k * 3)).block, (ad.add (k * 3)).off + 1, none⟩ = some (.int .i64 l[k].2.1) ∧ w.cell? ⟨(ad.add (k * 3)).block, (ad.add (k * 3)).off + 2, none⟩ = some (.string l[k].2.2) := by
  obtain ⟨ad, e, hc⟩ := h.2.2 (by omega)
  obtain ⟨c, hs, hK, hcell⟩ := hc k _ (List.getElem?_eq_getElem hk)
  have hc : ∀ j u, c[j]? = some u → w.cell? (ad.add (k * 3 + j)) = some u := hcell
  obtain rfl := kOp_open hK
  exact ⟨ad, e, hc 0 _ rfl, by rw [← add_field _ _ 1 (by omega)]; exact hc 1 _ rfl, by rw [← add_field _ _ 2 (by omega)]; exact hc 2 _ rfl⟩
theorem at_ac {w : World} {A : Option Addr} {l : List Acct} (h : kAc.C w A l.length l) {k : Nat} (hk : k < l.length) : ∃ ad, A = some ad ∧ w.cell? (ad.add (k * 3)) = some (.string l[k].1) ∧
    w.cell? ⟨(ad.add (k * 3)).block, (ad.add (k * 3)).off + 1, none⟩ = some (.int .i64 l[k].2.1) ∧ w.cell? ⟨(ad.add (k * 3)).block, (ad.add (k * 3)).off + 2, none⟩ = some (.int .i64 l[k].2.2) := by
  obtain ⟨ad, e, hc⟩ := h.2.2 (by omega)
  obtain ⟨c, hs, hK, hcell⟩ := hc k _ (List.getElem?_eq_getElem hk)
  have hc : ∀ j u, c[j]? = some u → w.cell? (ad.add (k * 3 + j)) = some u := hcell
  obtain rfl := kAc_open hK
  exact ⟨ad, e, hc 0 _ rfl, by rw [← add_field _ _ 1 (by omega)]; exact hc 1 _ rfl, by rw [← add_field _ _ 2 (by omega)]; exact hc 2 _ rfl⟩

def tokS (m : List Acct) (t : ByteArray) : ByteArray := if isS m t then t else ⟨#[]⟩
theorem account_any2 (p b : Nat) (m : List Acct) (t : ByteArray) (w : World) (hB : Bk w p b m) (ht : t.size ≤ maxLen) :
    Calls Try.prog 11 #[.pointer (some ⟨p, 0, none⟩), .string t] w fun e w' => e = .returned (.tuple #[.agg #[.string (tokS m t), .int .i64 (chS m t), .int .i64 (paS m t)], .bool (isS m t)]) ∧ w.grownBy w' none := account_any p b m t w hB ht

theorem set_sums {m : List Acct} (h : Fine m) (t : ByteArray) (c : Int) {a b e : Int} {m' : List Acct} (hs : setS m t c = (a, b, e, m')) :
    0 ≤ b ∧ (e = 0 ∨ (a = 0 ∧ b = 0)) ∧ chS m' t = chS m t + a ∧ paS m' t = paS m t - b := by
  have hat := h.at t
  unfold setS at hs
  split at hs
  · simp only [Prod.mk.injEq] at hs
    obtain ⟨rfl, rfl, rfl, rfl⟩ := hs
    omega
  · split at hs
    · simp only [Prod.mk.injEq] at hs
      obtain ⟨rfl, rfl, rfl, rfl⟩ := hs
      omega
    · simp only [Prod.mk.injEq] at hs
      obtain ⟨rfl, rfl, rfl, rfl⟩ := hs
      refine ⟨by omega, .inl rfl, ?_, ?_⟩
      · have : chS (putS m t c (min (paS m t) c)) t = c := by unfold chS; rw [get_put_same]; rfl
        omega
      · have : paS (putS m t c (min (paS m t) c)) t = min (paS m t) c := by unfold paS; rw [get_put_same]; rfl
        omega
theorem pay_sums {m : List Acct} (t : ByteArray) (n : Int) {e : Int} {m' : List Acct} (hs : payS m t n = (e, m')) :
    (e = 0 ∧ chS m' t = chS m t ∧ paS m' t = paS m t + n) ∨ (e = 220 ∧ m' = m) := by
  unfold payS at hs
  split at hs
  · simp only [Prod.mk.injEq] at hs
    exact .inr ⟨hs.1.symm, hs.2.symm⟩
  · simp only [Prod.mk.injEq] at hs
    obtain ⟨rfl, rfl⟩ := hs
    refine .inl ⟨rfl, ?_, ?_⟩
    · unfold chS
      rw [get_put_same]
      rfl
    · have : paS (putS m t (chS m t) (paS m t + n)) t = paS m t + n := by unfold paS; rw [get_put_same]; rfl
      exact this

/-! ### DebtSums -/
structure SRel (w0 : World) (p b : Nat) (t : ByteArray) (c q : Value) (m : List Acct) (wr : World) : Prop where
  bk : Bk wr p b m
  fine : Fine m
  ch : c = .int .i64 (chS m t)
  pa : q = .int .i64 (paS m t)
  bel : Below w0.heap.size w0 wr
  lb : w0.heap.size ≤ b
set_option maxHeartbeats 4000000 in
set_option maxRecDepth 20000 in
theorem sums_any (t : ByteArray) (A : Option Addr) (c : Nat) (l : List OpT) (w : World) (hr : kOp.C w A l.length l) (hN : ∀ x ∈ l, -9223372036854775808 ≤ x.2.1 ∧ x.2.1 ≤ 9223372036854775807) (ht : t.size ≤ maxLen) :
    Calls Try.prog 3 #[.string t, .slice A l.length c] w fun e w' => e = .returned (.bool true) ∧ Below w.heap.size w w' := by
  have hC := Lib.hid hr
  have HN := Lib.hid hN
  have HT := Lib.hid ht
  have hl : l.length ≤ 9223372036854775807 := hr.2.1
  clear hr hN ht
  go_enter Try.func3, Try.ntmps3
  go_wp2_with fail
  refine (awake_any w).mono ?_
  rintro e w1 ⟨rfl, hb⟩
  have L1 := Lib.hid hb
  clear hb
  go_wp2_with fail
  refine (new_any w1).mono ?_
  rintro e w2 ⟨rfl, hB, hg⟩
  obtain ⟨p, hp⟩ : ∃ p, p = w1.heap.size + 1 := ⟨_, rfl⟩
  obtain ⟨b, hb⟩ : ∃ b, b = w1.heap.size := ⟨_, rfl⟩
  rw [← hp, ← hb] at hB
  rw [← hp]
  have hlb : w.heap.size ≤ b := by rw [hb]; exact L1.out.size
  have K2 := Lib.hid (show SRel w p b t (.int .i64 0) (.int .i64 0) [] w2 from ⟨hB, fine_nil, rfl, rfl, below_none L1.out hg L1.out.size, hlb⟩)
  clear hB hg hp hb L1 hlb
  go_wp2
  go_loopw [7, 8, 9] (fun c q i wr => ∃ (k : Nat) (m : List Acct), k ≤ l.length ∧ i = .int .i64 k ∧ SRel w p b t c q m wr) (fun _ _ i _ => l.length - (intOf i).toNat)
  case atStart => exact ⟨0, [], Nat.zero_le _, rfl, K2.out⟩
  case round =>
    obtain ⟨k, m, hk, rfl, hR⟩ := hrel
    obtain ⟨hB, hF, rfl, rfl, hL, hlb⟩ := hR
    clear K2
    have KB := Lib.hid hB
    have KF := Lib.hid hF
    have KL := Lib.hid hL
    clear hB hF hL
    by_cases hlt : k < l.length
    · by_cases h200 : (k : Int) < 200
      · obtain ⟨ad, e0, hx0, hx1, hx2⟩ := at_op (Kd.C_below hC.out KL.out) hlt
        subst e0
        obtain ⟨x, hxe⟩ : ∃ x, x = l[k] := ⟨_, rfl⟩
        have hxn := HN.out x (by rw [hxe]; exact List.getElem_mem _)
        rw [← hxe] at hx0 hx1 hx2
        clear hxe
        obtain ⟨xd, xn, xs⟩ := x
        simp only at hx0 hx1 hx2 hxn
        by_cases hd0 : xd = 0
        · subst hd0
          have KO : Blk (wr.alloc (.cells #[.int .i64 0, .int .i64 xn, .string xs] 27)) wr.heap.size 27 #[.int .i64 0, .int .i64 xn, .string xs] := Blk.new _ _ _
          have hbo : b ≠ wr.heap.size := by have := KB.out.ltb; omega
          obtain ⟨W0, hW0⟩ : ∃ W, W = wr.alloc (.cells #[.int .i64 0, .int .i64 xn, .string xs] 27) := ⟨_, rfl⟩
          replace KB := Lib.hid (KB.out.alloc (.cells #[.int .i64 0, .int .i64 xn, .string xs] 27))
          replace KL := Lib.hid (below_alloc KL.out (.cells #[.int .i64 0, .int .i64 xn, .string xs] 27))
          rw [← hW0] at KB KL KO
          have HW0 := Lib.hid hW0
          clear hW0
          go_wp2_with fail
          rw [← HW0.out]
          clear HW0 hx0 hx1 hx2
          refine (set_any p b m t xn W0 KB.out KF.out HT.out).mono ?_
          obtain ⟨a, b1, er, m', hs⟩ : ∃ a b1 er m', setS m t xn = (a, b1, er, m') := ⟨_, _, _, _, rfl⟩
          have hF2 : Fine m' := by have h := fine_set KF.out t xn; rw [hs] at h; exact h
          obtain ⟨q1, q2, q3, q4⟩ := set_sums KF.out t xn hs
          rw [hs]
          rintro e w2 ⟨rfl, hB, hg⟩
          change Bk w2 p b m' at hB
          have ha1 := KF.out.at t
          replace KF := Lib.hid hF2
          have ha2 := KF.out.at t
          replace KB := Lib.hid hB
          replace KL := Lib.hid (below_grown KL.out hg hlb KL.out.size)
          have r1 : wrap64 (chS m t + a) = chS m' t := by rw [q3]; exact wrap_id (by omega)
          have r2 : wrap64 (paS m t - b1) = paS m' t := by rw [q4]; exact wrap_id (by omega)
          have q1' : ¬ b1 < 0 := by omega
          clear hB hg hF2 ha1 ha2 q3 q4 q1 hs hxn
          by_cases her : er = 0
          · clear q2
            go_wp2_with fail
            refine (account_any2 p b m' t _ KB.out HT.out).mono ?_
            rintro e w3 ⟨rfl, hg3⟩
            replace KB := Lib.hid (KB.out.kept hg3 (by simp) (by simp))
            replace KL := Lib.hid (below_none KL.out hg3 KL.out.size)
            clear hg3
            go_wp2_with fail
            obtain ⟨W3, hW3⟩ : ∃ W, W = w3.alloc (.cells #[.string (tokS m' t), .int .i64 (chS m' t), .int .i64 (paS m' t)] 33) := ⟨_, rfl⟩
            have KN := Blk.new w3 33 #[.string (tokS m' t), .int .i64 (chS m' t), .int .i64 (paS m' t)]
            replace KB := Lib.hid (KB.out.alloc (.cells #[.string (tokS m' t), .int .i64 (chS m' t), .int .i64 (paS m' t)] 33))
            replace KL := Lib.hid (below_alloc KL.out (.cells #[.string (tokS m' t), .int .i64 (chS m' t), .int .i64 (paS m' t)] 33))
            rw [← hW3] at KN KB KL ⊢
            clear hW3
            refine (debt_any p b m' t W3 KB.out KF.out HT.out).mono ?_
            rintro e w4 ⟨rfl, hg4⟩
            have y1 := (KN.grown hg4 (by simp)).cell 1
            have y2 := (KN.grown hg4 (by simp)).cell 2
            simp at y1 y2
            replace KB := Lib.hid (KB.out.kept hg4 (by simp) (by simp))
            replace KL := Lib.hid (below_none KL.out hg4 KL.out.size)
            clear hg4 KN
            have hat := KF.out.at t
            have hnn : 0 ≤ chS m' t - paS m' t := by omega
            have hww : wrap64 (chS m' t - paS m' t) = chS m' t - paS m' t := wrap_id (by omega)
            clear hat
            have HR := Lib.hid (show SRel w p b t (.int .i64 (chS m' t)) (.int .i64 (paS m' t)) m' w4 from ⟨KB.out, KF.out, rfl, rfl, KL.out, hlb⟩)
            cases hi : isS m' t
            · obtain ⟨k1, k2⟩ := not_is hi
              have HR2 := HR.out
              rw [k1, k2] at HR2
              replace HR := Lib.hid HR2
              clear HR2 hnn hww
              go_wp2
              refine ⟨⟨k + 1, m', by omega, by go_num, HR.out⟩, by simp [intOf]; omega⟩
            · go_wp2
              refine ⟨⟨k + 1, m', by omega, by go_num, HR.out⟩, by simp [intOf]; omega⟩

          · have q2' : a = 0 ∧ b1 = 0 := q2.resolve_left her
            obtain ⟨rfl, rfl⟩ := q2'
            rw [Int.add_zero] at r1
            rw [Int.sub_zero] at r2
            clear q2
            go_wp2_with fail
            refine (account_any2 p b m' t _ KB.out HT.out).mono ?_
            rintro e w3 ⟨rfl, hg3⟩
            replace KB := Lib.hid (KB.out.kept hg3 (by simp) (by simp))
            replace KL := Lib.hid (below_none KL.out hg3 KL.out.size)
            clear hg3
            go_wp2_with fail
            obtain ⟨W3, hW3⟩ : ∃ W, W = w3.alloc (.cells #[.string (tokS m' t), .int .i64 (chS m' t), .int .i64 (paS m' t)] 33) := ⟨_, rfl⟩
            have KN := Blk.new w3 33 #[.string (tokS m' t), .int .i64 (chS m' t), .int .i64 (paS m' t)]
            replace KB := Lib.hid (KB.out.alloc (.cells #[.string (tokS m' t), .int .i64 (chS m' t), .int .i64 (paS m' t)] 33))
            replace KL := Lib.hid (below_alloc KL.out (.cells #[.string (tokS m' t), .int .i64 (chS m' t), .int .i64 (paS m' t)] 33))
            rw [← hW3] at KN KB KL ⊢
            clear hW3
            refine (debt_any p b m' t W3 KB.out KF.out HT.out).mono ?_
            rintro e w4 ⟨rfl, hg4⟩
            have y1 := (KN.grown hg4 (by simp)).cell 1
            have y2 := (KN.grown hg4 (by simp)).cell 2
            simp at y1 y2
            replace KB := Lib.hid (KB.out.kept hg4 (by simp) (by simp))
            replace KL := Lib.hid (below_none KL.out hg4 KL.out.size)
            clear hg4 KN
            have hat := KF.out.at t
            have hnn : 0 ≤ chS m' t - paS m' t := by omega
            have hww : wrap64 (chS m' t - paS m' t) = chS m' t - paS m' t := wrap_id (by omega)
            clear hat
            have HR := Lib.hid (show SRel w p b t (.int .i64 (chS m' t)) (.int .i64 (paS m' t)) m' w4 from ⟨KB.out, KF.out, rfl, rfl, KL.out, hlb⟩)
            cases hi : isS m' t
            · obtain ⟨k1, k2⟩ := not_is hi
              have HR2 := HR.out
              rw [k1, k2] at HR2
              replace HR := Lib.hid HR2
              clear HR2 hnn hww
              go_wp2
              refine ⟨⟨k + 1, m', by omega, by go_num, HR.out⟩, by simp [intOf]; omega⟩
            · go_wp2
              refine ⟨⟨k + 1, m', by omega, by go_num, HR.out⟩, by simp [intOf]; omega⟩
        · by_cases hd1 : xd = 1
          · subst hd1
            have KO : Blk (wr.alloc (.cells #[.int .i64 1, .int .i64 xn, .string xs] 27)) wr.heap.size 27 #[.int .i64 1, .int .i64 xn, .string xs] := Blk.new _ _ _
            have hbo : b ≠ wr.heap.size := by have := KB.out.ltb; omega
            obtain ⟨W0, hW0⟩ : ∃ W, W = wr.alloc (.cells #[.int .i64 1, .int .i64 xn, .string xs] 27) := ⟨_, rfl⟩
            replace KB := Lib.hid (KB.out.alloc (.cells #[.int .i64 1, .int .i64 xn, .string xs] 27))
            replace KL := Lib.hid (below_alloc KL.out (.cells #[.int .i64 1, .int .i64 xn, .string xs] 27))
            rw [← hW0] at KB KL KO
            have HW0 := Lib.hid hW0
            clear hW0
            go_wp2_with fail
            rw [← HW0.out]
            clear HW0 hx0 hx1 hx2
            refine (pay_any p b m t xn W0 KB.out KF.out hxn HT.out).mono ?_
            obtain ⟨er, m', hs⟩ : ∃ er m', payS m t xn = (er, m') := ⟨_, _, rfl⟩
            have hF2 : Fine m' := by have h := fine_pay KF.out t xn; rw [hs] at h; exact h
            have q := pay_sums t xn hs
            rw [hs]
            rintro e w2 ⟨rfl, hB, hg⟩
            change Bk w2 p b m' at hB
            have x1 := (KO.grown hg (by simp; omega)).cell 1
            simp at x1
            have ha1 := KF.out.at t
            replace KF := Lib.hid hF2
            have ha2 := KF.out.at t
            replace KB := Lib.hid hB
            replace KL := Lib.hid (below_grown KL.out hg hlb KL.out.size)
            rcases q with ⟨rfl, q1, q2⟩ | ⟨rfl, rfl⟩
            · have r2 : wrap64 (paS m t + xn) = paS m' t := by rw [q2]; exact wrap_id (by omega)
              clear hB hg hF2 ha1 ha2 hs hxn q2
              go_wp2_with fail
              rw [← q1]
              clear q1
              refine (account_any2 p b m' t _ KB.out HT.out).mono ?_
              rintro e w3 ⟨rfl, hg3⟩
              replace KB := Lib.hid (KB.out.kept hg3 (by simp) (by simp))
              replace KL := Lib.hid (below_none KL.out hg3 KL.out.size)
              clear hg3
              go_wp2_with fail
              obtain ⟨W3, hW3⟩ : ∃ W, W = w3.alloc (.cells #[.string (tokS m' t), .int .i64 (chS m' t), .int .i64 (paS m' t)] 33) := ⟨_, rfl⟩
              have KN := Blk.new w3 33 #[.string (tokS m' t), .int .i64 (chS m' t), .int .i64 (paS m' t)]
              replace KB := Lib.hid (KB.out.alloc (.cells #[.string (tokS m' t), .int .i64 (chS m' t), .int .i64 (paS m' t)] 33))
              replace KL := Lib.hid (below_alloc KL.out (.cells #[.string (tokS m' t), .int .i64 (chS m' t), .int .i64 (paS m' t)] 33))
              rw [← hW3] at KN KB KL ⊢
              clear hW3
              refine (debt_any p b m' t W3 KB.out KF.out HT.out).mono ?_
              rintro e w4 ⟨rfl, hg4⟩
              have y1 := (KN.grown hg4 (by simp)).cell 1
              have y2 := (KN.grown hg4 (by simp)).cell 2
              simp at y1 y2
              replace KB := Lib.hid (KB.out.kept hg4 (by simp) (by simp))
              replace KL := Lib.hid (below_none KL.out hg4 KL.out.size)
              clear hg4 KN
              have hat := KF.out.at t
              have hnn : 0 ≤ chS m' t - paS m' t := by omega
              have hww : wrap64 (chS m' t - paS m' t) = chS m' t - paS m' t := wrap_id (by omega)
              clear hat
              have HR := Lib.hid (show SRel w p b t (.int .i64 (chS m' t)) (.int .i64 (paS m' t)) m' w4 from ⟨KB.out, KF.out, rfl, rfl, KL.out, hlb⟩)
              cases hi : isS m' t
              · obtain ⟨k1, k2⟩ := not_is hi
                have HR2 := HR.out
                rw [k1, k2] at HR2
                replace HR := Lib.hid HR2
                clear HR2 hnn hww
                go_wp2
                refine ⟨⟨k + 1, m', by omega, by go_num, HR.out⟩, by simp [intOf]; omega⟩
              · go_wp2
                refine ⟨⟨k + 1, m', by omega, by go_num, HR.out⟩, by simp [intOf]; omega⟩

            · clear hB hg hF2 ha1 ha2 hs hxn
              go_wp2_with fail
              refine (account_any2 p b m' t _ KB.out HT.out).mono ?_
              rintro e w3 ⟨rfl, hg3⟩
              replace KB := Lib.hid (KB.out.kept hg3 (by simp) (by simp))
              replace KL := Lib.hid (below_none KL.out hg3 KL.out.size)
              clear hg3
              go_wp2_with fail
              obtain ⟨W3, hW3⟩ : ∃ W, W = w3.alloc (.cells #[.string (tokS m' t), .int .i64 (chS m' t), .int .i64 (paS m' t)] 33) := ⟨_, rfl⟩
              have KN := Blk.new w3 33 #[.string (tokS m' t), .int .i64 (chS m' t), .int .i64 (paS m' t)]
              replace KB := Lib.hid (KB.out.alloc (.cells #[.string (tokS m' t), .int .i64 (chS m' t), .int .i64 (paS m' t)] 33))
              replace KL := Lib.hid (below_alloc KL.out (.cells #[.string (tokS m' t), .int .i64 (chS m' t), .int .i64 (paS m' t)] 33))
              rw [← hW3] at KN KB KL ⊢
              clear hW3
              refine (debt_any p b m' t W3 KB.out KF.out HT.out).mono ?_
              rintro e w4 ⟨rfl, hg4⟩
              have y1 := (KN.grown hg4 (by simp)).cell 1
              have y2 := (KN.grown hg4 (by simp)).cell 2
              simp at y1 y2
              replace KB := Lib.hid (KB.out.kept hg4 (by simp) (by simp))
              replace KL := Lib.hid (below_none KL.out hg4 KL.out.size)
              clear hg4 KN
              have hat := KF.out.at t
              have hnn : 0 ≤ chS m' t - paS m' t := by omega
              have hww : wrap64 (chS m' t - paS m' t) = chS m' t - paS m' t := wrap_id (by omega)
              clear hat
              have HR := Lib.hid (show SRel w p b t (.int .i64 (chS m' t)) (.int .i64 (paS m' t)) m' w4 from ⟨KB.out, KF.out, rfl, rfl, KL.out, hlb⟩)
              cases hi : isS m' t
              · obtain ⟨k1, k2⟩ := not_is hi
                have HR2 := HR.out
                rw [k1, k2] at HR2
                replace HR := Lib.hid HR2
                clear HR2 hnn hww
                go_wp2
                refine ⟨⟨k + 1, m', by omega, by go_num, HR.out⟩, by simp [intOf]; omega⟩
              · go_wp2
                refine ⟨⟨k + 1, m', by omega, by go_num, HR.out⟩, by simp [intOf]; omega⟩
          · obtain ⟨W0, hW0⟩ : ∃ W, W = wr.alloc (.cells #[.int .i64 xd, .int .i64 xn, .string xs] 27) := ⟨_, rfl⟩
            replace KB := Lib.hid (KB.out.alloc (.cells #[.int .i64 xd, .int .i64 xn, .string xs] 27))
            replace KL := Lib.hid (below_alloc KL.out (.cells #[.int .i64 xd, .int .i64 xn, .string xs] 27))
            rw [← hW0] at KB KL
            have HW0 := Lib.hid hW0
            clear hW0
            go_wp2_with fail
            rw [← HW0.out]
            clear HW0 hx0 hx1 hx2
            refine (account_any2 p b m t _ KB.out HT.out).mono ?_
            rintro e w3 ⟨rfl, hg3⟩
            replace KB := Lib.hid (KB.out.kept hg3 (by simp) (by simp))
            replace KL := Lib.hid (below_none KL.out hg3 KL.out.size)
            clear hg3
            go_wp2_with fail
            obtain ⟨W3, hW3⟩ : ∃ W, W = w3.alloc (.cells #[.string (tokS m t), .int .i64 (chS m t), .int .i64 (paS m t)] 33) := ⟨_, rfl⟩
            have KN := Blk.new w3 33 #[.string (tokS m t), .int .i64 (chS m t), .int .i64 (paS m t)]
            replace KB := Lib.hid (KB.out.alloc (.cells #[.string (tokS m t), .int .i64 (chS m t), .int .i64 (paS m t)] 33))
            replace KL := Lib.hid (below_alloc KL.out (.cells #[.string (tokS m t), .int .i64 (chS m t), .int .i64 (paS m t)] 33))
            rw [← hW3] at KN KB KL ⊢
            clear hW3
            refine (debt_any p b m t W3 KB.out KF.out HT.out).mono ?_
            rintro e w4 ⟨rfl, hg4⟩
            have y1 := (KN.grown hg4 (by simp)).cell 1
            have y2 := (KN.grown hg4 (by simp)).cell 2
            simp at y1 y2
            replace KB := Lib.hid (KB.out.kept hg4 (by simp) (by simp))
            replace KL := Lib.hid (below_none KL.out hg4 KL.out.size)
            clear hg4 KN
            have hat := KF.out.at t
            have hnn : 0 ≤ chS m t - paS m t := by omega
            have hww : wrap64 (chS m t - paS m t) = chS m t - paS m t := wrap_id (by omega)
            clear hat
            have HR := Lib.hid (show SRel w p b t (.int .i64 (chS m t)) (.int .i64 (paS m t)) m w4 from ⟨KB.out, KF.out, rfl, rfl, KL.out, hlb⟩)
            cases hi : isS m t
            · obtain ⟨k1, k2⟩ := not_is hi
              have HR2 := HR.out
              rw [k1, k2] at HR2
              replace HR := Lib.hid HR2
              clear HR2 hnn hww
              go_wp2
              refine ⟨⟨k + 1, m, by omega, by go_num, HR.out⟩, by simp [intOf]; omega⟩
            · go_wp2
              refine ⟨⟨k + 1, m, by omega, by go_num, HR.out⟩, by simp [intOf]; omega⟩
      · go_wp2
        go_ret
        exact ⟨rfl, KL.out⟩
    · go_wp2
      go_ret
      exact ⟨rfl, KL.out⟩
end Go.Proofs.Ytbfpggghcdfghaa.Hand
