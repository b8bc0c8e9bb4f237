/- debt's Book by hand: Pay; the tokens in order. -/
import Derived.Test.YtbfpggghcdfghaaHandB
import Derived.Test.YtbfpggghcdfghaaIter
namespace Go.Proofs.Ytbfpggghcdfghaa.Hand
open Go.RowKit Go.Maps Go.Sort Go.Proofs.YtbfpggghcdfghaaW.PrintWords Go.Proofs.Ytbfpggghcdfghaa.PA

set_option maxRecDepth 20000 in
theorem pay_any (p b : Nat) (m : List Acct) (t : ByteArray) (n : Int) (w : World) (hB : Bk w p b m) (hG : Fine m) (hn : -9223372036854775808 ≤ n ∧ n ≤ 9223372036854775807) (ht : t.size ≤ maxLen) :
    Calls Try.prog 10 #[.pointer (some ⟨p, 0, none⟩), .string t, .int .i64 n] w fun e w' => e = .returned (.int .i64 (payS m t n).1) ∧ Bk w' p b (payS m t n).2 ∧ w.grownBy w' (some b) := by
  have x0 : w.cell? ⟨p, 0, none⟩ = some (.map (some b)) := hB.blk.cell 0
  have hown := Lib.hid hB.own
  have hf := hG.at t
  have hn' := hn
  clear hn
  have hw1 : wrap64 (chS m t - paS m t) = chS m t - paS m t := wrap_id (by omega)
  cases h4 : isS m t
  · have e : payS m t n = (220, m) := by unfold payS; rw [if_pos (.inl h4)]
    rw [e]
    clear e hf hn'
    go_enter Try.func10, Try.ntmps10
    go_wp2_with (first | (at_lookup; refine wpList_look_ok rfl _ _ rfl rfl (hown.out) t rfl ht ?_))
    go_ret
    exact ⟨rfl, hB.alloc _, World.grownBy_alloc _ _ _⟩
  · by_cases h1 : n < 1
    · have e : payS m t n = (220, m) := by unfold payS; rw [if_pos (.inr (.inl h1))]
      rw [e]
      clear e hf hn'
      go_enter Try.func10, Try.ntmps10
      go_wp2_with (first | (at_lookup; refine wpList_look_ok rfl _ _ rfl rfl (hown.out) t rfl ht ?_))
      go_ret
      exact ⟨rfl, hB.alloc _, World.grownBy_alloc _ _ _⟩
    · by_cases h2 : n > chS m t - paS m t
      · have e : payS m t n = (220, m) := by unfold payS; rw [if_pos (.inr (.inr h2))]
        rw [e]
        clear e hf hn'
        go_enter Try.func10, Try.ntmps10
        go_wp2_with (first | (at_lookup; refine wpList_look_ok rfl _ _ rfl rfl (hown.out) t rfl ht ?_))
        go_ret
        exact ⟨rfl, hB.alloc _, World.grownBy_alloc _ _ _⟩
      · have e : payS m t n = (0, putS m t (chS m t) (paS m t + n)) := by unfold payS; rw [if_neg (by simp [h4]; omega)]
        rw [e]
        have hw2 : wrap64 (paS m t + n) = paS m t + n := wrap_id (by omega)
        clear e hf hn'
        go_enter Try.func10, Try.ntmps10
        go_wp2_with (first | (at_lookup; refine wpList_look_ok rfl _ _ rfl rfl (hown.out) t rfl ht ?_))
        obtain ⟨W2, hW2⟩ : ∃ W2, W2 = w.alloc (.cells #[.int .i64 (chS m t), .int .i64 (paS m t + n)] 59) := ⟨_, rfl⟩
        have hB2 : Bk W2 p b m := by rw [hW2]; exact hB.alloc _
        have hg2 : w.grownBy W2 none := by rw [hW2]; exact World.grownBy_alloc _ _ _
        have hn1 : Blk W2 w.heap.size 59 #[.int .i64 (chS m t), .int .i64 (paS m t + n)] := by rw [hW2]; exact Blk.new _ _ _
        rw [← hW2]
        obtain ⟨W3, hrun, hown3, hg3⟩ := store_any W2.drew hB2.own (by have := hG.few; unfold maxLen; omega) ht (chS m t) (paS m t + n)
        have hg3' : W2.grownBy W3 (some b) := ⟨hg3.os, hg3.tape, hg3.output, hg3.size, hg3.block⟩
        have y0 := hB2.blk.cell 0
        have y1 := hn1.cell 0
        have y2 := hn1.cell 1
        simp at y0 y1 y2
        have hBz : Bk W3 p b (putS m t (chS m t) (paS m t + n)) := ⟨hB2.blk.grown hg3' (by simpa using hB2.ne), hown3, hB2.ne⟩
        have hgz := (grown_but hg2 (some b)).trans hg3'
        clear x0 hW2 hg3 hg3' hg2 hn1 hown3 hB2
        go_region
        go_wp2
        go_ret
        exact ⟨rfl, hBz, hgz⟩

/-! ### the tokens in order -/
theorem before_eq : ∀ (x y : List UInt8), bytesBefore x y = decide (x < y)
  | [], [] => by simp [bytesBefore]
  | _ :: _, [] => by simp [bytesBefore]
  | [], _ :: _ => by simp [bytesBefore]
  | a :: x, b :: y => by
    rw [bytesBefore, before_eq x y]
    simp only [List.cons_lt_cons_iff]
    by_cases h : a < b
    · simp [h]
    · by_cases e : a = b
      · simp [e]
      · simp [h, e]
theorem lt_iff (a b : ByteArray) : lt a b ↔ toL a < toL b := by
  unfold lt
  rw [before_eq]
  simp
theorem less_eq : ∀ (x y : List UInt8), Op.bytesLess x y = decide (x < y)
  | [], [] => by simp [Op.bytesLess]
  | _ :: _, [] => by simp [Op.bytesLess]
  | [], _ :: _ => by simp [Op.bytesLess]
  | a :: x, b :: y => by
    rw [Op.bytesLess, less_eq x y]
    simp only [List.cons_lt_cons_iff]
    by_cases h : a < b
    · simp [h]
    · by_cases e : a = b
      · simp [e]
      · simp [h, e]
theorem strKeys_dat (m : List Acct) : strKeys (dat m) = m.map (fun x => toL x.1) := by
  show List.map (fun p => strOf p.fst) (List.map ent m) = _
  rw [List.map_map]
  rfl
theorem sorted_keys {m : List Acct} (h : Rise m) {ss : List (List UInt8)} (hp : ss.Perm (strKeys (dat m))) : (ss.mergeSort (fun x y => decide (x ≤ y))).map encStr = m.map (fun x => Value.string x.1) := by
  rw [mergeSort_of_perm hp, strKeys_dat]
  have : (m.map (fun x => toL x.1)).mergeSort leB = m.map (fun x => toL x.1) := by
    refine List.mergeSort_of_pairwise ?_
    rw [List.pairwise_map]
    refine h.imp fun {x y} hxy => ?_
    simp only [decide_eq_true_eq]
    exact List.le_of_lt ((lt_iff _ _).1 hxy)
  show ((m.map (fun x => toL x.1)).mergeSort leB).map encStr = _
  rw [this, List.map_map]
  apply List.map_congr_left
  intro x _
  simp [encStr, toL]
theorem tokens_any (p b : Nat) (m : List Acct) (w : World) (hB : Bk w p b m) (hG : Fine m) :
    Calls Try.prog 21 #[.pointer (some ⟨p, 0, none⟩)] w fun e w' => ∃ v, e = .returned v ∧ w'.ownsRow w.heap.size 9 1 v m.length (m.map (fun x => Value.string x.1)) ∧ (v = .slice none 0 0 ↔ m = []) ∧ w.grownBy w' none := by
  have x0 : w.cell? ⟨p, 0, none⟩ = some (.map (some b)) := hB.blk.cell 0
  have hmax : Maps.size (dat m) ≤ maxLen := by rw [size_dat]; have := hG.few; unfold maxLen; omega
  have hbytes : Maps.size (dat m) * 16 ≤ 140737488355328 := by rw [size_dat]; have := hG.few; omega
  have hs := It.sorted_any b m.length (dat m) sumsElem w hB.own hmax hbytes
  have HS := Lib.hid hs
  clear hs hmax hbytes
  go_enter Try.func21, Try.ntmps21
  go_wp2_with (first | (go_at_call 32; refine (It.keys_any _ _).mono ?_; rintro e w' ⟨rfl, rfl⟩) | (go_at_call 31; refine (HS.out).mono ?_; rintro e w' ⟨v, ss, rfl, hS, hrow, hnil, hb⟩))
  go_ret
  have hl : ss.length = m.length := by rw [hS.length_eq, strKeys_dat, List.length_map]
  rw [sorted_keys hG.rise hS, hl] at hrow
  have hsz : (w.alloc (.cells #[.map (some b)] 55)).heap.size = w.heap.size + 1 := by simp
  rw [hsz] at hrow hb
  refine ⟨v, rfl, ?_, ?_, ?_⟩
  · obtain ⟨h1, h2⟩ := hrow
    refine ⟨h1, h2.imp id ?_⟩
    rintro ⟨g, cap, cur, e1, e2, r⟩
    exact ⟨g, cap, cur, e1, by omega, r⟩
  · rw [hnil]
    constructor
    · intro h; rw [h] at hl; exact List.eq_nil_of_length_eq_zero hl.symm
    · intro h; rw [h] at hl; exact List.eq_nil_of_length_eq_zero hl
  · refine (World.grownBy_alloc w _ none).trans ⟨hb.os, hb.tape, hb.output, hb.size, fun k hk _ => hb.block k (by omega)⟩
end Go.Proofs.Ytbfpggghcdfghaa.Hand
