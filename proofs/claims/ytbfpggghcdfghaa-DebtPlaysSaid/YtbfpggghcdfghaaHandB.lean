/- debt's Book by hand: Set, Pay, Account, Debt. -/
import Derived.Test.YtbfpggghcdfghaaHandA
namespace Go.Proofs.Ytbfpggghcdfghaa.Hand
open Go.RowKit Go.Maps Go.Proofs.YtbfpggghcdfghaaW.PrintWords Go.Proofs.Ytbfpggghcdfghaa.PA

theorem wrap_id {i : Int} (h : -9223372036854775808 ≤ i ∧ i ≤ 9223372036854775807) : wrap64 i = i := by unfold wrap64; omega

theorem debt_any (p b : Nat) (m : List Acct) (t : ByteArray) (w : World) (hB : Bk w p b m) (hG : Fine m) (ht : t.size ≤ maxLen) :
    Calls Try.prog 12 #[.pointer (some ⟨p, 0, none⟩), .string t] w fun e w' => e = .returned (.int .i64 (chS m t - paS m t)) ∧ w.grownBy w' none := by
  have x0 : w.cell? ⟨p, 0, none⟩ = some (.map (some b)) := hB.blk.cell 0
  have hown := Lib.hid hB.own
  have hw : wrap64 (chS m t - paS m t) = chS m t - paS m t := wrap_id (by have := hG.at t; omega)
  have HW := Lib.hid hw
  clear hB hG hw
  go_enter Try.func12, Try.ntmps12
  go_wp2_with (first | (at_lookup; refine wpList_look rfl _ _ rfl rfl hown.out t rfl ht ?_))
  go_ret
  exact ⟨by rw [HW.out]; rfl, World.grownBy_alloc _ _ _⟩

/-- What Account answers. -/
def acctV (m : List Acct) (t : ByteArray) : Value := .agg #[.string (if isS m t then t else ⟨#[]⟩), .int .i64 (chS m t), .int .i64 (paS m t)]
theorem not_is {m : List Acct} {t : ByteArray} (h : isS m t = false) : chS m t = 0 ∧ paS m t = 0 := by
  unfold isS at h
  unfold chS paS
  cases e : getS m t with
  | none => simp
  | some x => rw [e] at h; cases h
theorem account_any (p b : Nat) (m : List Acct) (t : ByteArray) (w : World) (hB : Bk w p b m) (ht : t.size ≤ maxLen) :
    Calls Try.prog 11 #[.pointer (some ⟨p, 0, none⟩), .string t] w fun e w' => e = .returned (.tuple #[acctV m t, .bool (isS m t)]) ∧ w.grownBy w' none := by
  have x1 : ∀ o, (w.alloc o).cell? ⟨p, 0, none⟩ = some (.map (some b)) := fun o => (hB.blk.alloc o).cell 0
  have hown := Lib.hid hB.own
  clear hB
  cases hi : isS m t
  · have ha : acctV m t = .agg #[.string ⟨#[]⟩, .int .i64 0, .int .i64 0] := by
      unfold acctV
      rw [(not_is hi).1, (not_is hi).2, hi]
      rfl
    rw [ha]
    clear ha
    go_enter Try.func11, Try.ntmps11
    go_wp2_with (first | (at_lookup; refine wpList_look_ok rfl _ _ rfl rfl (hown.out.alloc _) t rfl ht ?_))
    refine bodyPost_ret (results_ct rfl _ _ w.heap.size 33 #[.string ⟨#[]⟩, .int .i64 0, .int .i64 0] (0, 0) _ rfl ((Blk.new w 33 _).alloc _) Try.underlying33 rfl (by kernel_rfl)) rfl ?_
    exact ⟨rfl, (World.grownBy_alloc _ _ _).trans (World.grownBy_alloc _ _ _)⟩
  · have ha : acctV m t = .agg #[.string t, .int .i64 (chS m t), .int .i64 (paS m t)] := by
      unfold acctV
      rw [hi]
      rfl
    rw [ha]
    clear ha
    go_enter Try.func11, Try.ntmps11
    go_wp2_with (first | (at_lookup; refine wpList_look_ok rfl _ _ rfl rfl (hown.out.alloc _) t rfl ht ?_))
    refine bodyPost_ret (results_ct rfl _ _ w.heap.size 33 #[.string t, .int .i64 (chS m t), .int .i64 (paS m t)] (0, 0) _ rfl ((Blk.new w 33 _).alloc _) Try.underlying33 rfl (by kernel_rfl)) rfl ?_
    exact ⟨rfl, (World.grownBy_alloc _ _ _).trans (World.grownBy_alloc _ _ _)⟩
theorem right_any (c : Int) (w : World) : Calls Try.prog 20 #[.int .i64 c] w fun e w' => e = .returned (.bool (decide (-9007199254740992 ≤ c ∧ c ≤ 9007199254740992))) ∧ w = w' := by
  by_cases h : -9007199254740992 ≤ c
  · go_enter Try.func20, Try.ntmps20
    go_wp2
    go_ret
    refine ⟨?_, rfl⟩
    simp [h]
  · go_enter Try.func20, Try.ntmps20
    go_wp2
    go_ret
    refine ⟨?_, rfl⟩
    have : decide (-9007199254740992 ≤ c) = false := by simp; omega
    simp [this]
theorem wpList_len {w : World} {ops : Array Oper} {rest : List Oper} {o : Oper} {a : Act} {Q : Exit → Act → World → Prop} (hg : o.guard = none) (mo : Operand) (hop : o.op = Op.call { callee := Callee.builtin Builtin.len, args := #[mo], argTypes := #[55] })
    {b n : Nat} {m : List Acct} (hm : a.eval mo = .map (some b)) (hown : w.ownsMap Try.prog 9 sumsElem b n (dat m))
    (hK : wpList Try.prog ops Q rest (a.put o.dst (.int .i64 (m.length : Int))) w) : wpList Try.prog ops Q (o :: rest) a w :=
  wpList_len_own w hg mo 55 hop 9 59 Try.underlying55 sumsElem b n (dat m) hm hown (by rw [size_dat]; exact hK)
theorem Bk.drew {w : World} {p b : Nat} {m : List Acct} (h : Bk w p b m) : Bk w.drew p b m := ⟨h.blk, h.own, h.ne⟩
theorem grown_drew {a c : World} {row : Option Nat} (h : a.grownBy c row) : a.grownBy c.drew row := ⟨h.os, h.tape, h.output, h.size, h.block⟩
theorem grown_but {a c : World} (h : a.grownBy c none) (row : Option Nat) : a.grownBy c row := ⟨h.os, h.tape, h.output, h.size, fun i hi _ => h.block i hi (by simp)⟩
theorem store_any (w : World) {b n : Nat} {m : List Acct} (hown : w.ownsMap Try.prog 9 sumsElem b n (dat m)) (hn : n < maxLen) {t : ByteArray} (ht : t.size ≤ maxLen) (c d : Int) :
    ∃ w', (Instr.mapUpdate 55 (.map (some b)) (.string t) (.agg #[.int .i64 c, .int .i64 d])).run Try.prog w = .ok () w' ∧ w'.ownsMap Try.prog 9 sumsElem b (putS m t c d).length (dat (putS m t c d)) ∧ w.grownBy w' (some b) := by
  obtain ⟨w', h1, h2, h3⟩ := hown.update keyed9 Try.underlying55 hn (key_of ht) (sumsElem_mk c d)
  exact ⟨w', h1, own_exact (by rw [← put_dat]; exact h2), h3⟩
set_option maxRecDepth 20000 in
theorem set_any (p b : Nat) (m : List Acct) (t : ByteArray) (c : Int) (w : World) (hB : Bk w p b m) (hG : Fine m) (ht : t.size ≤ maxLen) :
    Calls Try.prog 9 #[.pointer (some ⟨p, 0, none⟩), .string t, .int .i64 c] w fun e w' => e = .returned (.tuple #[.int .i64 (setS m t c).1, .int .i64 (setS m t c).2.1, .int .i64 (setS m t c).2.2.1]) ∧ Bk w' p b (setS m t c).2.2.2 ∧ w.grownBy w' (some b) := by
  have x0 : w.cell? ⟨p, 0, none⟩ = some (.map (some b)) := hB.blk.cell 0
  have x1 : ∀ o, (w.alloc o).cell? ⟨p, 0, none⟩ = some (.map (some b)) := fun o => (hB.blk.alloc o).cell 0
  have hown := Lib.hid hB.own
  have hlen : ∀ o, (Builtin.len_ #[55] 3 #[.map (some b)]).run Try.prog (w.alloc o) = .ok (.int .i64 (m.length : Int)) (w.alloc o) := fun o => by rw [(hown.out.alloc o).len Try.underlying55 3, size_dat]
  by_cases h1 : (t.size : Int) = 8
  · by_cases h2 : c < 0
    · have e : setS m t c = (0, 0, 220, m) := by unfold setS; rw [if_pos (.inr (.inl h2))]
      rw [e]
      clear e hlen
      go_enter Try.func9, Try.ntmps9
      go_wp2_with (first | (at_lookup; refine wpList_look_ok rfl _ _ rfl rfl (hown.out) t rfl ht ?_))
      go_ret3
      exact ⟨rfl, hB.alloc _, World.grownBy_alloc _ _ _⟩
    · by_cases h3 : 9007199254740992 < c
      · have e : setS m t c = (0, 0, 220, m) := by unfold setS; rw [if_pos (.inr (.inr h3))]
        rw [e]
        clear e hlen
        have hr : decide (-9007199254740992 ≤ c ∧ c ≤ 9007199254740992) = false := by simp; omega
        go_enter Try.func9, Try.ntmps9
        go_wp2_with (first | (at_lookup; refine wpList_look_ok rfl _ _ rfl rfl (hown.out) t rfl ht ?_) | (go_at_call 20; refine (right_any _ _).mono ?_; rw [hr]; rintro e w' ⟨rfl, rfl⟩))
        go_ret3
        exact ⟨rfl, hB.alloc _, World.grownBy_alloc _ _ _⟩
      · have hr : decide (-9007199254740992 ≤ c ∧ c ≤ 9007199254740992) = true := by simp; omega
        have hf := hG.at t
        by_cases h4 : isS m t = false
        · by_cases h5 : (m.length : Int) ≥ 1000
          · have e : setS m t c = (0, 0, 2, m) := by unfold setS; rw [if_neg (by omega), if_pos ⟨h4, by omega⟩]
            rw [e]
            clear e hf
            go_enter Try.func9, Try.ntmps9
            go_wp2_with (first | (at_lookup; refine wpList_look_ok rfl _ _ rfl rfl (hown.out) t rfl ht ?_) | (go_at_call 20; refine (right_any _ _).mono ?_; rw [hr]; rintro e w' ⟨rfl, rfl⟩))
            go_ret3
            exact ⟨rfl, hB.alloc _, World.grownBy_alloc _ _ _⟩
          · obtain ⟨k1, k2⟩ := not_is h4
            have hm : min 0 c = 0 := by omega
            have e : setS m t c = (c, 0, 0, putS m t c 0) := by unfold setS; rw [if_neg (by omega), if_neg (by omega), k1, k2, hm]; simp
            have hw : wrap64 c = c := wrap_id (by omega)
            rw [e]
            clear e hf
            go_enter Try.func9, Try.ntmps9
            go_wp2_with (first | (at_lookup; refine wpList_look_ok rfl _ _ rfl rfl (hown.out) t rfl ht ?_) | (go_at_call 20; refine (right_any _ _).mono ?_; rw [hr]; rintro e w' ⟨rfl, rfl⟩) )
            obtain ⟨W2, hW2⟩ : ∃ W2, W2 = (w.alloc (.cells #[.int .i64 0, .int .i64 0] 59)).alloc (.cells #[.int .i64 c, .int .i64 0] 59) := ⟨_, rfl⟩
            have hB2 : Bk W2 p b m := by rw [hW2]; exact (hB.alloc _).alloc _
            have hg2 : w.grownBy W2 none := by rw [hW2]; exact (World.grownBy_alloc _ _ _).trans (World.grownBy_alloc _ _ _)
            have hn1 : Blk W2 w.heap.size 59 #[.int .i64 0, .int .i64 0] := by rw [hW2]; exact (Blk.new_ _ _ _ rfl).alloc _
            have hn2 : Blk W2 (w.heap.size + 1) 59 #[.int .i64 c, .int .i64 0] := by rw [hW2]; exact Blk.new_ _ _ _ (by simp)
            rw [← hW2]
            obtain ⟨W3, hrun, hown3, hg3⟩ := store_any W2.drew hB2.own (by have := hG.few; unfold maxLen; omega) ht c 0
            have hg3' : W2.grownBy W3 (some b) := ⟨hg3.os, hg3.tape, hg3.output, hg3.size, hg3.block⟩
            have hlb := hB.ltb
            have m1 := hn1.grown hg3' (by simp; omega)
            have m2 := hn2.grown hg3' (by simp; omega)
            have y0 := hB2.blk.cell 0
            have y1 := hn2.cell 0
            have y2 := hn2.cell 1
            have z1 := m1.cell 0
            have z2 := m1.cell 1
            have z3 := m2.cell 1
            simp at y0 y1 y2 z1 z2 z3
            have hBz : Bk W3 p b (putS m t c 0) := ⟨hB2.blk.grown hg3' (by simpa using hB2.ne), hown3, hB2.ne⟩
            have hgz := (grown_but hg2 (some b)).trans hg3'
            clear x0 x1 hW2 hlen hg3 hg3' hg2 hn1 hn2 m1 m2 hown3 hlb hB2
            go_region
            go_wp2
            go_region
            go_wp2
            go_ret3
            exact ⟨by first | rfl | (rw [hw1]; rfl) | (rw [hw1, hw2]; rfl), hBz.drew, grown_drew hgz⟩
        · have h4 : isS m t = true := by simpa using h4
          by_cases h6 : paS m t ≤ c
          · have e : setS m t c = (c - chS m t, 0, 0, putS m t c (paS m t)) := by unfold setS; rw [if_neg (by omega), if_neg (by simp [h4]), show min (paS m t) c = (paS m t) by omega]; simp
            rw [e]
            have hw1 : wrap64 (c - chS m t) = c - chS m t := wrap_id (by omega)
            clear e hf
            go_enter Try.func9, Try.ntmps9
            go_wp2_with (first | (at_lookup; refine wpList_look_ok rfl _ _ rfl rfl (hown.out) t rfl ht ?_) | (go_at_call 20; refine (right_any _ _).mono ?_; rw [hr]; rintro e w' ⟨rfl, rfl⟩))
            obtain ⟨W2, hW2⟩ : ∃ W2, W2 = (w.alloc (.cells #[.int .i64 (chS m t), .int .i64 (paS m t)] 59)).alloc (.cells #[.int .i64 c, .int .i64 (paS m t)] 59) := ⟨_, rfl⟩
            have hB2 : Bk W2 p b m := by rw [hW2]; exact (hB.alloc _).alloc _
            have hg2 : w.grownBy W2 none := by rw [hW2]; exact (World.grownBy_alloc _ _ _).trans (World.grownBy_alloc _ _ _)
            have hn1 : Blk W2 w.heap.size 59 #[.int .i64 (chS m t), .int .i64 (paS m t)] := by rw [hW2]; exact (Blk.new_ _ _ _ rfl).alloc _
            have hn2 : Blk W2 (w.heap.size + 1) 59 #[.int .i64 c, .int .i64 (paS m t)] := by rw [hW2]; exact Blk.new_ _ _ _ (by simp)
            rw [← hW2]
            obtain ⟨W3, hrun, hown3, hg3⟩ := store_any W2.drew hB2.own (by have := hG.few; unfold maxLen; omega) ht c (paS m t)
            have hg3' : W2.grownBy W3 (some b) := ⟨hg3.os, hg3.tape, hg3.output, hg3.size, hg3.block⟩
            have hlb := hB.ltb
            have m1 := hn1.grown hg3' (by simp; omega)
            have m2 := hn2.grown hg3' (by simp; omega)
            have y0 := hB2.blk.cell 0
            have y1 := hn2.cell 0
            have y2 := hn2.cell 1
            have z1 := m1.cell 0
            have z2 := m1.cell 1
            have z3 := m2.cell 1
            simp at y0 y1 y2 z1 z2 z3
            have hBz : Bk W3 p b (putS m t c (paS m t)) := ⟨hB2.blk.grown hg3' (by simpa using hB2.ne), hown3, hB2.ne⟩
            have hgz := (grown_but hg2 (some b)).trans hg3'
            clear x0 x1 hW2 hlen hg3 hg3' hg2 hn1 hn2 m1 m2 hown3 hlb hB2
            go_region
            go_wp2
            go_region
            go_wp2
            go_ret3
            exact ⟨by first | rfl | (rw [hw1]; rfl) | (rw [hw1, hw2]; rfl), hBz.drew, grown_drew hgz⟩
          · have e : setS m t c = (c - chS m t, paS m t - c, 0, putS m t c c) := by unfold setS; rw [if_neg (by omega), if_neg (by simp [h4]), show min (paS m t) c = c by omega]
            rw [e]
            have hw1 : wrap64 (c - chS m t) = c - chS m t := wrap_id (by omega)
            have hw2 : wrap64 (paS m t - c) = paS m t - c := wrap_id (by omega)
            clear e hf
            go_enter Try.func9, Try.ntmps9
            go_wp2_with (first | (at_lookup; refine wpList_look_ok rfl _ _ rfl rfl (hown.out) t rfl ht ?_) | (go_at_call 20; refine (right_any _ _).mono ?_; rw [hr]; rintro e w' ⟨rfl, rfl⟩))
            obtain ⟨W2, hW2⟩ : ∃ W2, W2 = (w.alloc (.cells #[.int .i64 (chS m t), .int .i64 (paS m t)] 59)).alloc (.cells #[.int .i64 c, .int .i64 c] 59) := ⟨_, rfl⟩
            have hB2 : Bk W2 p b m := by rw [hW2]; exact (hB.alloc _).alloc _
            have hg2 : w.grownBy W2 none := by rw [hW2]; exact (World.grownBy_alloc _ _ _).trans (World.grownBy_alloc _ _ _)
            have hn1 : Blk W2 w.heap.size 59 #[.int .i64 (chS m t), .int .i64 (paS m t)] := by rw [hW2]; exact (Blk.new_ _ _ _ rfl).alloc _
            have hn2 : Blk W2 (w.heap.size + 1) 59 #[.int .i64 c, .int .i64 c] := by rw [hW2]; exact Blk.new_ _ _ _ (by simp)
            rw [← hW2]
            obtain ⟨W3, hrun, hown3, hg3⟩ := store_any W2.drew hB2.own (by have := hG.few; unfold maxLen; omega) ht c c
            have hg3' : W2.grownBy W3 (some b) := ⟨hg3.os, hg3.tape, hg3.output, hg3.size, hg3.block⟩
            have hlb := hB.ltb
            have m1 := hn1.grown hg3' (by simp; omega)
            have m2 := hn2.grown hg3' (by simp; omega)
            have y0 := hB2.blk.cell 0
            have y1 := hn2.cell 0
            have y2 := hn2.cell 1
            have z1 := m1.cell 0
            have z2 := m1.cell 1
            have z3 := m2.cell 1
            simp at y0 y1 y2 z1 z2 z3
            have hBz : Bk W3 p b (putS m t c c) := ⟨hB2.blk.grown hg3' (by simpa using hB2.ne), hown3, hB2.ne⟩
            have hgz := (grown_but hg2 (some b)).trans hg3'
            clear x0 x1 hW2 hlen hg3 hg3' hg2 hn1 hn2 m1 m2 hown3 hlb hB2
            go_region
            go_wp2
            go_region
            go_wp2
            go_ret3
            exact ⟨by first | rfl | (rw [hw1]; rfl) | (rw [hw1, hw2]; rfl), hBz.drew, grown_drew hgz⟩
  · have e : setS m t c = (0, 0, 220, m) := by unfold setS; rw [if_pos (.inl (by omega))]
    rw [e]
    clear e hlen
    go_enter Try.func9, Try.ntmps9
    go_wp2_with (first | (at_lookup; refine wpList_look_ok rfl _ _ rfl rfl (hown.out) t rfl ht ?_))
    go_ret3
    exact ⟨rfl, hB.alloc _, World.grownBy_alloc _ _ _⟩
end Go.Proofs.Ytbfpggghcdfghaa.Hand
