/- fareboxref22's Book by hand: Listed. -/
import Derived.Test.YtbfpggghcdfghaaHandL
namespace Go.Proofs.Ytbfpggghcdfghaa.Hand
open Go.RowKit Go.Maps Go.Sort Go.Proofs.YtbfpggghcdfghaaW.PrintWords Go.Proofs.Ytbfpggghcdfghaa.PA

theorem Rb.lt {w : World} {r base : Nat} {m : List Acct} (h : Rb w r base m) : r < w.heap.size := by
  obtain ⟨v, h1, _⟩ := h
  exact h1.lt
theorem Rb.below {w w' : World} {r base : Nat} {m : List Acct} (h : Rb w r base m) (hb : Below w.heap.size w w') : Rb w' r base m :=
  h.kept ⟨hb.os, hb.tape, hb.output, hb.size, fun k hk _ => hb.block k hk⟩
set_option maxHeartbeats 2000000 in
set_option maxRecDepth 20000 in
theorem reflisted_any (r base : Nat) (m : List Acct) (th : Int) (w : World) (hB : Rb w r base m) (hF : Fine m) :
    Calls Try.prog 30 #[.pointer (some ⟨r, 0, none⟩), .int .i64 th] w (ListPost w (listS m th)) := by
  obtain ⟨i0, hi, hz0, hz1, hz2⟩ := info_parts info9s
  have HB := Lib.hid hB
  have HF := Lib.hid hF
  have hml : m.length ≤ 1000 := hF.few
  clear hB hF
  go_enter Try.func30, Try.ntmps30
  go_wp2
  go_loopw [5, 6] (fun o i wr => ∃ k : Nat, k ≤ m.length ∧ i = .int .i64 k ∧ LRel w th m k o wr) (fun _ i _ => m.length - (intOf i).toNat)
  case atStart => exact ⟨0, Nat.zero_le _, rfl, LRel.start _ _ _⟩
  case round =>
    obtain ⟨k, hk, rfl, hR⟩ := hrel
    have HR := Lib.hid hR
    clear hR
    obtain ⟨A, c, hblk, hc, hC, _⟩ := (HB.out.below HR.out.bel).opened
    have x0 : wr.cell? ⟨r, 0, none⟩ = some (.slice A m.length c) := hblk.cell 0
    by_cases hlt : k < m.length
    · obtain ⟨ad, e0, hx0, hx1, hx2⟩ := at_ac hC hlt
      subst e0
      obtain ⟨x, hxe⟩ : ∃ x, x = m[k] := ⟨_, rfl⟩
      have hxm : x ∈ m := by rw [hxe]; exact List.getElem_mem _
      have hox := HF.out.ok x hxm
      have hwr : wrap64 (x.2.1 - x.2.2) = x.2.1 - x.2.2 := wrap_id (by unfold PA.Ok at hox; omega)
      rw [← hxe] at hx0 hx1 hx2
      have HX := Lib.hid hxe
      have hkl : (k : Int) < (m.length : Int) := by omega
      have hll := list_len (m.take k) th
      rw [List.length_take] at hll
      have hws := HR.out.bel.size
      clear hxe hxm hox hC hblk
      by_cases hth : th < x.2.1 - x.2.2
      · go_wp2_with fail
        go_quiet (fail)
        obtain ⟨W1, hW1⟩ : ∃ W, W = wr.drewN nq := ⟨_, rfl⟩
        have hg1 : wr.grownBy W1 none := by rw [hW1]; exact grown_drewN _ _ _
        replace x0 : W1.cell? ⟨r, 0, none⟩ = some (.slice (some ad) m.length c) := by rw [hW1]; exact x0
        replace hx0 : W1.cell? (ad.add (k * 3)) = some (.string x.1) := by rw [hW1]; exact hx0
        have HG1 := Lib.hid hg1
        rw [← hW1]
        clear hW1 hx1 hx2 hwr hg1
        go_wp2_with (first | (at_builtin; refine wpList_append_own _ rfl _ _ 45 rfl w.heap.size 9 i0 (.string ⟨#[]⟩) 1 16 Try.underlying45 hi hz0 hz1 hz2 rfl (by decide) _ _ _ rfl ((own_step HR.out.own HG1.out).alloc _) ⟨W1.heap.size, 0, none⟩ 1 1 [.string x.1] rfl rfl (cell_one_new _ _ _) (one_str _) (by unfold maxLen; omega) (by omega) (Nat.le_trans hws (Nat.le_trans HG1.out.size (by simp))) ?_; intro v' w3 hown' hgrow hnil'))
        refine ⟨⟨k + 1, by omega, by go_num, ?_⟩, by simp [intOf]; omega⟩
        have hxe := HX.out
        subst hxe
        exact HR.out.hit hlt hth (HG1.out.trans (World.grownBy_alloc _ _ _)) (Nat.le_trans hws (Nat.le_trans HG1.out.size (by simp))) hown' hgrow
      · go_wp2_with fail
        go_quiet (fail)
        go_wp2
        refine ⟨⟨k + 1, by omega, by go_num, ?_⟩, by simp [intOf]; omega⟩
        have hxe := HX.out
        subst hxe
        exact HR.out.miss hlt (by unfold owe; omega) (grown_drewN _ _ _)
    · clear hC hblk
      go_wp2
      go_ret
      have hkm : k = m.length := by omega
      subst hkm
      obtain ⟨h1, h2⟩ := HR.out
      rw [List.take_length] at h1
      exact ⟨_, rfl, h1, ⟨h2.os, h2.tape, h2.output, h2.size, fun j hj _ => h2.block j hj⟩⟩

/-! ### what the document's book may write: its own cell, and rows of accounts made behind base -/
structure Rk (w w' : World) (r base : Nat) : Prop where
  os : w'.os = w.os
  tape : w'.tape = w.tape
  output : w'.output = w.output
  size : w.heap.size ≤ w'.heap.size
  block : ∀ k, k < w.heap.size → k ≠ r → (∀ cells fr, w.heap[k]? = some (.cells cells 33 fr) → k < base) → w'.heap[k]? = w.heap[k]?
theorem Rk.of_grown {w w' : World} {r base : Nat} (h : w.grownBy w' none) : Rk w w' r base := ⟨h.os, h.tape, h.output, h.size, fun k hk _ _ => h.block k hk (by simp)⟩
theorem Rk.below {B : Nat} {w0 w w' : World} {r base : Nat} (h : Below B w0 w) (hk : Rk w w' r base) (hr : B ≤ r) (hb : B ≤ base) (hB : B ≤ w.heap.size) : Below B w0 w' :=
  h.trans ⟨hk.os, hk.tape, hk.output, hk.size, fun k hkB => hk.block k (by omega) (by omega) (fun _ _ _ => by omega)⟩
theorem Rk.bk {w w' : World} {r base p b : Nat} {m n : List Acct} (hk : Rk w w' r base) (h : Bk w p b m) (hr : Rb w r base n) : Bk w' p b m := by
  obtain ⟨v, hr1, _⟩ := hr
  have hpr : p ≠ r := by
    rintro rfl
    have e1 := h.blk
    unfold Blk at e1 hr1
    rw [e1] at hr1
    injection hr1 with hr1
    injection hr1 with _ h2
    exact absurd h2 (by decide)
  obtain ⟨es, clock, hb, rest⟩ := h.own
  have hbr : b ≠ r := by
    rintro rfl
    unfold Blk at hr1
    rw [hb] at hr1
    injection hr1 with hr1
    cases hr1
  refine ⟨(hk.block p h.ltp hpr (fun cells fr hc => ?_)).trans h.blk, ⟨es, clock, (hk.block b h.ltb hbr (fun cells fr hc => ?_)).trans hb, rest⟩, h.ne⟩
  · have e1 := h.blk
    unfold Blk at e1
    rw [e1] at hc
    injection hc with hc
    injection hc with _ h2
    exact absurd h2 (by decide)
  · rw [hb] at hc
    injection hc with hc
    cases hc
/-- debt's book writes its map alone: the document's book stays. -/
theorem Rb.map {w w' : World} {r base p b : Nat} {m n : List Acct} (h : Rb w r base n) (hB : Bk w p b m) (hg : w.grownBy w' (some b)) : Rb w' r base n := by
  obtain ⟨v, h1, h2⟩ := h
  obtain ⟨es, clock, hb, rest⟩ := hB.own
  refine ⟨v, h1.grown hg ?_, h2.kept hg (.inr ?_)⟩
  · intro e
    injection e with e
    subst e
    unfold Blk at h1
    rw [hb] at h1
    injection h1 with h1
    cases h1
  · intro e
    obtain ⟨cells, hc⟩ := own_typed h2 b e
    rw [hb] at hc
    injection hc with hc
    cases hc
theorem flat_set : ∀ (m : List Acct) (K j : Nat) (u : Value) (y : Acct), K < m.length → j < 3 → (∀ x, m[K]? = some x → (encA x).set j u = encA y) → (m.flatMap encA).set (K * 3 + j) u = (m.set K y).flatMap encA
  | [], K, _, _, _, h, _, _ => by simp at h
  | x :: r, 0, j, u, y, _, hj, h => by
    have := h x rfl
    rw [List.flatMap_cons, Nat.zero_mul, Nat.zero_add, List.set_append_left _ _ (by rw [encA_len]; exact hj), this]
    rfl
  | x :: r, K + 1, j, u, y, hK, hj, h => by
    rw [List.flatMap_cons, List.set_append_right _ _ (by rw [encA_len]; omega), encA_len, show (K + 1) * 3 + j - 3 = K * 3 + j by omega,
      flat_set r K j u y (by simpa using hK) hj (by simpa using h)]
    rfl
/-- A cell of the row may be written; what comes of it. -/
theorem row_write {w : World} {base : Nat} {ad : Addr} {c : Nat} {m : List Acct} (h : w.ownsRow base 33 3 (.slice (some ad) m.length c) m.length (m.flatMap encA)) (K j : Nat) (u : Value) (y : Acct) (hK : K < m.length) (hj : j < 3) (hy : (encA m[K]).set j u = encA y) :
    w.frozen? ⟨(ad.add (K * 3)).block, (ad.add (K * 3)).off + j, none⟩ = false ∧
    (w.setCell ⟨(ad.add (K * 3)).block, (ad.add (K * 3)).off + j, none⟩ u).ownsRow base 33 3 (.slice (some ad) m.length c) m.length ((m.set K y).flatMap encA) ∧ w.grownBy (w.setCell ⟨(ad.add (K * 3)).block, (ad.add (K * 3)).off + j, none⟩ u) (some ad.block) ∧ base ≤ ad.block ∧ ∃ cells, w.heap[ad.block]? = some (.cells cells 33 (0, 0)) := by
  have h0 := h
  rcases h.2 with ⟨h', _⟩ | ⟨g, cap, cur, h', hb, hg, _⟩
  · cases h'
  · injection h' with h1 h2 h3
    injection h1 with h1
    subst h1
    have e : (⟨g, 0, none⟩ : Addr).add (K * 3) = ⟨g, K * 3, none⟩ := add_plain _ _
    rw [e]
    obtain ⟨s1, s2⟩ := World.ownsRow.stored h0 (K * 3 + j) u
    rw [flat_set m K j u y hK hj (fun x hx => by
      rw [List.getElem?_eq_getElem hK] at hx
      injection hx with hx
      rw [← hx]
      exact hy)] at s1
    exact ⟨h0.frozenAt _, s1, s2, hb, _, hg⟩
theorem Rk.of_write {w w' : World} {r base g : Nat} (hg : w.grownBy w' (some g)) (hb : base ≤ g) {cells : Array Value} {fr : Nat × Nat} (hc : w.heap[g]? = some (.cells cells 33 fr)) : Rk w w' r base :=
  ⟨hg.os, hg.tape, hg.output, hg.size, fun k hk _ hn => hg.block k hk (fun e => by
    injection e with e
    subst e
    have := hn _ _ hc
    omega)⟩
theorem Rk.trans {a b c : World} {r base : Nat} (h : Rk a b r base) (k : Rk b c r base) : Rk a c r base :=
  ⟨k.os.trans h.os, k.tape.trans h.tape, k.output.trans h.output, Nat.le_trans h.size k.size, fun j hj hr hn => by
    have e := h.block j hj hr hn
    exact (k.block j (Nat.lt_of_lt_of_le hj h.size) hr (fun cells fr hc => hn cells fr (by rw [← e]; exact hc))).trans e⟩
end Go.Proofs.Ytbfpggghcdfghaa.Hand
