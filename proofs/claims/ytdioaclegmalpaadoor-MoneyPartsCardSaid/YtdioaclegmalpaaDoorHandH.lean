/- Split, walked. -/
import Derived.Test.YtdioaclegmalpaaDoorPureB
import Derived.OwnWalk
import Derived.Laws.OwnMore
namespace Go.Proofs.YtdioaclegmalpaaDoor.Hand
open Go.RowKit Go.Sort Go.Lib Go.Proofs.YtdioaclegmalpaaDoorW.PrintWords Go.Proofs.YtdioaclegmalpaaDoor.XA

def Blk (w : World) (g : Nat) (t : TypeId) (cs : Array Value) : Prop := w.heap[g]? = some (.cells cs t (0, 0))
section
variable {w w' : World} {g : Nat} {t : TypeId} {cs : Array Value}
theorem Blk.lt (h : Blk w g t cs) : g < w.heap.size := by
  rcases Nat.lt_or_ge g w.heap.size with hlt | hge
  · exact hlt
  · unfold Blk at h; rw [Array.getElem?_eq_none hge] at h; cases h
theorem Blk.cell (h : Blk w g t cs) (i : Nat) : w.cell? ⟨g, i, none⟩ = cs[i]? := cell_of_row w g i cs t (0, 0) h
theorem Blk.frozen (h : Blk w g t cs) (i : Nat) : w.frozen? ⟨g, i, none⟩ = false := by
  unfold Blk at h
  simp [World.frozen?, h]
theorem Blk.below {B : Nat} (h : Blk w g t cs) (hb : Below B w w') (hg : g < B) : Blk w' g t cs := (hb.block g hg).trans h
theorem Blk.drewN (h : Blk w g t cs) (n : Nat) : Blk (w.drewN n) g t cs := h
theorem Blk.far (h : Blk w g t cs) {p : Addr} (hp : g ≠ p.block) (u : Value) : Blk (w.setCell p u) g t cs := (Below.heap_setCell w p u g hp).trans h
theorem Blk.set (h : Blk w g t cs) (i : Nat) (u : Value) : Blk (w.setCell ⟨g, i, none⟩ u) g t (cs.setIfInBounds i u) := by
  unfold Blk at h ⊢
  simp only [World.setCell, Array.getElem?_modify, if_true, h]
  rfl
theorem Blk.grown {row : Option Nat} (h : Blk w g t cs) (hb : w.grownBy w' row) (hg : some g ≠ row) : Blk w' g t cs := (hb.block g h.lt hg).trans h
end
theorem blk_of_own {w : World} {base g n : Nat} {xs : List Value} (h : w.ownsRow base 3 1 (.slice (some ⟨g, 0, none⟩) n n) n xs) : Blk w g 3 xs.toArray := by
  rcases h.2 with ⟨h1, _⟩ | ⟨g', cap, cur, h1, _, hh, _, _, hs, ht⟩
  · cases h1
  · injection h1 with h2 h3 h4
    injection h2 with h2
    injection h2 with h2
    subst h2 h4
    have e : cur.toList.length = n := by simp; omega
    rw [Nat.mul_one, List.take_of_length_le (by omega)] at ht
    rw [← ht]
    exact hh

/-- The i-th of p parts of n. -/
def partN (n p i : Nat) : Int := ((n / p + if i < n % p then 1 else 0 : Nat) : Int)
/-- The row behind k rounds. -/
def partsV (n p k : Nat) : Array Value := ((List.range p).map fun i => if i < k then Value.int .i64 (partN n p i) else .int .i64 0).toArray
theorem parts_size (n p k : Nat) : (partsV n p k).size = p := by simp [partsV]
theorem parts_at (n p k i : Nat) (h : i < p) : (partsV n p k)[i]? = some (if i < k then Value.int .i64 (partN n p i) else .int .i64 0) := by simp [partsV, h]
theorem parts_zero (n p : Nat) : (partsV n p 0).toList = List.replicate p (.int .i64 0) := by
  unfold partsV
  apply List.ext_getElem?
  intro i
  rw [List.getElem?_replicate]
  by_cases h : i < p <;> simp [h]
theorem parts_next (n p k : Nat) : (partsV n p k).setIfInBounds k (.int .i64 (partN n p k)) = partsV n p (k + 1) := by
  apply Array.ext_getElem?
  intro i
  rw [Array.getElem?_setIfInBounds]
  by_cases h : i < p
  · rw [parts_at n p k i h, parts_at n p (k + 1) i h]
    by_cases hk : k = i
    · subst hk
      rw [if_pos rfl, if_pos (by rw [parts_size]; exact h), if_pos (Nat.lt_succ_self _)]
    · rw [if_neg hk]
      by_cases h2 : i < k
      · rw [if_pos h2, if_pos (by omega)]
      · rw [if_neg h2, if_neg (by omega)]
  · have e1 : (partsV n p k)[i]? = none := Array.getElem?_eq_none (by rw [parts_size]; omega)
    have e2 : (partsV n p (k + 1))[i]? = none := Array.getElem?_eq_none (by rw [parts_size]; omega)
    rw [e1, e2, parts_size]
    split
    · rw [if_neg (by omega)]
    · rfl
theorem info3s : (Tryd.prog.info? 3).map (fun i => (i.zero, i.size, i.bytes)) = some (some (.int .i64 0), 1, 8) := by kernel_rfl

set_option maxHeartbeats 4000000 in
set_option maxRecDepth 20000 in
theorem split_ok (n p : Nat) (hn : n ≤ 9007199254740992) (h1 : 1 ≤ p) (h2 : p ≤ 1000) (w : World) : Calls Tryd.prog 17 #[.int .i64 n, .int .i64 p] w fun e w' => ∃ g, w.heap.size ≤ g ∧ e = .returned (.tuple #[.slice (some ⟨g, 0, none⟩) p p, .int .i64 0]) ∧ Blk w' g 3 (partsV n p p) ∧ Kept w w' := by
  obtain ⟨i0, hi, hz0, hz1, hz2⟩ := info_parts info3s
  have Q := fun w => money_Right.calls n _ w (right_f n)
  have hq : rightS n = true := decide_eq_true (by omega)
  rw [hq] at Q
  have hn0 : ¬ (n : Int) < 0 := by omega
  have hp0 : ¬ (p : Int) < 1 := by omega
  have hp1 : ¬ (p : Int) > 1000 := by omega
  have hpn : ¬ (p : Int) = 0 := by omega
  have b0 : i0.bytes * p ≤ 281474976710656 := by rw [hz2]; omega
  have b1 : p ≤ maxLen := Nat.le_trans (by omega : p ≤ 281474976710656) (by decide)
  have H2 := Lib.hid h2
  clear hq h2
  obtain ⟨q, hq⟩ : ∃ q : Int, q = ((n / p : Nat) : Int) := ⟨_, rfl⟩
  obtain ⟨r, hr⟩ : ∃ r : Int, r = ((n % p : Nat) : Int) := ⟨_, rfl⟩
  obtain ⟨q1, hq1⟩ : ∃ q1 : Int, q1 = q + 1 := ⟨_, rfl⟩
  have hqb : 0 ≤ q ∧ q ≤ 9007199254740992 := by have := Nat.div_le_self n p; rw [hq]; generalize n / p = d at this ⊢; omega
  have t1 : IntKind.i64.wrap ((n : Int).tdiv p) = q := by rw [Int.tdiv_eq_ediv_of_nonneg (by omega), ← Int.natCast_ediv, ← hq, IntKind.wrap_i64]; omega
  have t2 : (n : Int).tmod p = r := by rw [Int.tmod_eq_emod_of_nonneg (by omega), hr, Int.natCast_emod]
  have t3 : IntKind.i64.wrap (q + 1) = q1 := by rw [IntKind.wrap_i64]; omega
  have HQ := Lib.hid hq
  have HR := Lib.hid hr
  have HQ1 := Lib.hid hq1
  clear hq hr hq1 hqb
  obtain ⟨pI, hpI⟩ : ∃ pI : Int, pI = p := ⟨_, rfl⟩
  have HPI := Lib.hid hpI
  rw [← hpI] at hp0 hp1 hpn t1 t2
  rw [← hpI]
  clear hpI
  generalize (n : Int) = nI at Q hn0 t1 t2 ⊢
  go_enter Tryd.func17, Tryd.ntmps17
  go_wp2_with fail
  refine (Q _).mono ?_
  rintro e w1 ⟨rfl, hd⟩
  have hz := Lib.hid ((Kept.refl w).drawn hd)
  clear hd Q
  go_wp2_with (at_make; refine wpList_make_full _ rfl (.tmp 23) (.tmp 23) 30 rfl w1.heap.size 3 i0 _ 1 Tryd.underlying30 hi hz0 hz1 .i64 .i64 _ _ p rfl rfl HPI.out HPI.out b0 b1 (Nat.le_refl _) ?_; intro w2 hown hg)
  have hB : Blk w2 w1.heap.size 3 (partsV n p 0) := by
    have h := blk_of_own (base := w1.heap.size) (n := p) hown
    rw [Nat.mul_one] at h
    have e : (madeCells (Value.int .i64 0).cells p).toList.toArray = partsV n p 0 := by
      apply Array.toList_inj.1
      rw [parts_zero]
      exact toList_madeCells_one _ _
    rw [e] at h
    exact h
  have hK := Lib.hid ((Below.refl w1.heap.size w1).grown hg (Nat.le_refl _) (fun k hk => by cases hk))
  have HB := Lib.hid hB
  clear hown hg hB hi hz0 hz1 hz2 b0 b1 i0
  have hge := Lib.hid (show w.heap.size ≤ w1.heap.size from hz.out.size)
  obtain ⟨g, hgd⟩ : ∃ g, g = w1.heap.size := ⟨_, rfl⟩
  have hgw := Lib.hid (Nat.le_of_eq hgd.symm)
  rw [← hgd] at hK HB hge ⊢
  clear hgd
  go_loopw [7, 27] (fun _ v27 wr => ∃ k : Nat, v27 = .int .i64 k ∧ k ≤ p ∧ Hid (Blk wr g 3 (partsV n p k)) ∧ Hid (Below g w1 wr)) (fun _ v27 _ => p - (RowKit.intOf v27).toNat)
  case atStart => exact ⟨0, rfl, by omega, HB, hK⟩
  case round =>
    obtain ⟨k, rfl, hk, hblk, hbel⟩ := hrel
    by_cases hlt : k < p
    · have hlt' : (k : Int) < (p : Int) := by omega
      have x0 : wr.cell? ⟨g, k, none⟩ = some (.int .i64 0) := (hblk.out.cell k).trans (by rw [parts_at n p k k hlt, if_neg (Nat.lt_irrefl _)])
      have x1 := hblk.out.frozen k
      have hset := hblk.out.set k (.int .i64 q)
      have hset2 := hset.set k (.int .i64 q1)
      have y0 : (wr.setCell ⟨g, k, none⟩ (.int .i64 q)).cell? ⟨g, k, none⟩ = some (.int .i64 q) := (hset.cell k).trans (by rw [Array.getElem?_setIfInBounds, if_pos rfl, if_pos (by rw [parts_size]; exact hlt)])
      have y1 := hset.frozen k
      have HS := Lib.hid hset
      have HS2 := Lib.hid hset2
      have bb1 := Lib.hid (hbel.out.setCell (p := ⟨g, k, none⟩) (Nat.le_refl _) (.int .i64 q))
      have bb2 := Lib.hid (bb1.out.setCell (p := ⟨g, k, none⟩) (Nat.le_refl _) (.int .i64 q1))
      clear hset hset2
      have hw1 : IntKind.i64.wrap ((k : Int) + 1) = (k : Int) + 1 := by have := H2.out; rw [IntKind.wrap_i64]; omega
      by_cases hc : (k : Int) < r
      · have hp : partN n p k = q1 := by
          unfold partN
          rw [HQ1.out, HQ.out, if_pos (by have := HR.out; omega)]
          rfl
        have he : (((partsV n p k).setIfInBounds k (.int .i64 q)).setIfInBounds k (.int .i64 q1)) = partsV n p (k + 1) := by
          rw [← hp, ← parts_next, Array.setIfInBounds_setIfInBounds]
        have HE := Lib.hid he
        clear hp he
        go_wp2_with fail
        refine ⟨⟨k + 1, by congr 1, by omega, Lib.hid (by rw [← HE.out]; exact HS2.out), bb2⟩, by simp [RowKit.intOf]; omega⟩
      · have hp : partN n p k = q := by
          unfold partN
          rw [HQ.out, if_neg (by have := HR.out; omega)]
          rfl
        have he : (partsV n p k).setIfInBounds k (.int .i64 q) = partsV n p (k + 1) := by
          rw [← hp, ← parts_next]
        have HE := Lib.hid he
        clear hp he
        go_wp2_with fail
        refine ⟨⟨k + 1, by congr 1, by omega, Lib.hid (by rw [← HE.out]; exact HS.out), bb1⟩, by simp [RowKit.intOf]; omega⟩
    · have hkk : k = p := by omega
      have HBB := Lib.hid (show Blk wr g 3 (partsV n p p) by rw [← hkk]; exact hkk ▸ hblk.out)
      have HF := Lib.hid (show Kept w wr from hz.out.then (by have := hbel.out; exact ⟨this.os, this.tape, this.output, this.size, fun j hj => this.block j (Nat.lt_of_lt_of_le hj hgw.out)⟩))
      go_wp2_with fail
      go_ret2
      exact ⟨g, hge.out, rfl, HBB.out, HF.out⟩
end Go.Proofs.YtdioaclegmalpaaDoor.Hand
