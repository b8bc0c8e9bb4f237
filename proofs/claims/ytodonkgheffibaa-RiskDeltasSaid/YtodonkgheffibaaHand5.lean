/- The small case that each statement about risk lists begins with (the document's example): it comes out right. By hand, over the printed contracts. -/
import Derived.Test.YtodonkgheffibaaPureC
import Derived.Test.YtodonkgheffibaaXBx
namespace Go.Proofs.Ytodonkgheffibaa.Hand
open Go.RowKit Go.Proofs.YtodonkgheffibaaW.PrintWords Go.Proofs.YtodonkgheffibaaW.PrintLast Go.Proofs.YtodonkgheffibaaW.PrintMore
open Go.Proofs.Ytodonkgheffibaa.PA Go.Proofs.Ytodonkgheffibaa.PB Go.Proofs.Ytodonkgheffibaa.PC

/-! ### a block known whole -/
def Blk (w : World) (g : Nat) (t : TypeId) (cs : Array Value) : Prop := w.heap[g]? = some (.cells cs t (0, 0))
section
variable {w w' : World} {g : Nat} {t : TypeId} {cs : Array Value}
theorem Blk.lt (h : Blk w g t cs) : g < w.heap.size := by
  rcases Nat.lt_or_ge g w.heap.size with hlt | hge
  · exact hlt
  · unfold Blk at h; rw [Array.getElem?_eq_none hge] at h; cases h
theorem Blk.cell (h : Blk w g t cs) (i : Nat) : w.cell? ⟨g, i, none⟩ = cs[i]? := cell_of_row w g i cs t (0, 0) h
theorem Blk.frozen (h : Blk w g t cs) (i : Nat) : w.frozen? ⟨g, i, none⟩ = false := by
  unfold Blk at h
  simp [World.frozen?, h]
theorem Blk.new (w : World) (t : TypeId) (cs : Array Value) : Blk (w.alloc (.cells cs t)) w.heap.size t cs := heap_alloc_new w _
theorem Blk.new_ (w : World) {g : Nat} (t : TypeId) (cs : Array Value) (hg : w.heap.size = g) : Blk (w.alloc (.cells cs t)) g t cs := by subst hg; exact heap_alloc_new w _
theorem Blk.alloc (h : Blk w g t cs) (o : Obj) : Blk (w.alloc o) g t cs := (Below.heap_alloc w o g h.lt).trans h
theorem Blk.drewN (h : Blk w g t cs) (n : Nat) : Blk (w.drewN n) g t cs := h
theorem Blk.below {B : Nat} (h : Blk w g t cs) (hb : Below B w w') (hg : g < B) : Blk w' g t cs := (hb.block g hg).trans h
end
theorem C_of_blk {w : World} {g : Nat} {l : List ByteArray} (h : Blk w g 9 (strsV l).toArray) (hm : l.length ≤ 9223372036854775807) : Kd.C Kd.string w (some ⟨g, 0, none⟩) l.length l := by
  refine ⟨rfl, hm, fun _ => ⟨_, rfl, fun j p hj => ⟨[.string p], rfl, rfl, fun i u hu => ?_⟩⟩⟩
  have hi : i = 0 := by
    have := (List.getElem?_eq_some_iff.1 hu).1
    simp at this
    exact this
  subst hi
  simp at hu
  subst hu
  have e : (Kd.string).sz = 1 := rfl
  rw [e, Nat.mul_one, Nat.add_zero, add_plain, h.cell]
  simp [strsV, hj]

/-! ### what the example comes to -/
def aA : ByteArray := ⟨#[97, 97, 97, 97, 97, 97, 97, 97]⟩
def aB : ByteArray := ⟨#[98, 98, 98, 98, 98, 98, 98, 98]⟩
def aC : ByteArray := ⟨#[99, 99, 99, 99, 99, 99, 99, 99]⟩
theorem lt_ab : aA.toList < aB.toList := by rw [toL_eq, toL_eq]; decide
theorem lt_bc : aB.toList < aC.toList := by rw [toL_eq, toL_eq]; decide
theorem lt_ac : aA.toList < aC.toList := List.lt_trans lt_ab lt_bc
theorem ne_ab : aA ≠ aB := fun e => by have h := lt_ab; rw [e] at h; exact List.lt_irrefl _ h
theorem ne_bc : aB ≠ aC := fun e => by have h := lt_bc; rw [e] at h; exact List.lt_irrefl _ h
theorem ne_ac : aA ≠ aC := fun e => by have h := lt_ac; rw [e] at h; exact List.lt_irrefl _ h
theorem rise_ac : Rise [aA, aC] := by simp [Rise, lt_ac]
theorem rise_bc : Rise [aB, aC] := by simp [Rise, lt_bc]
theorem ex_plus : plusS [aC, aB, aC] = [aB, aC] := rise_ext (plus_rise _) rise_bc fun x => by
  rw [mem_plus]
  simp only [List.mem_cons, List.not_mem_nil, or_false]
  constructor
  · rintro (h | h | h) <;> simp [h]
  · rintro (h | h) <;> simp [h]
theorem ex_led : Led 1 [aA, aC] [aC, aB, aC] := by
  refine ⟨⟨by decide, by decide, by decide, ?_, rise_ac⟩, by decide, ?_, ?_⟩
  · intro x hx
    simp only [List.mem_cons, List.not_mem_nil, or_false] at hx
    rcases hx with rfl | rfl <;> decide
  · intro x hx
    simp only [List.mem_cons, List.not_mem_nil, or_false] at hx
    rcases hx with rfl | rfl | rfl <;> decide
  · rw [ex_plus]; decide
theorem ex_add : lessS (plusS [aC, aB, aC]) [aA, aC] = [aB] := by
  rw [ex_plus, less_eq rise_ac (by decide)]
  have h1 : inS [aA, aC] aB = false := (inS_false_iff _ _).2 (by simp [ne_ab.symm, ne_bc])
  have h2 : inS [aA, aC] aC = true := (inS_iff _ _).2 (by simp)
  simp [h1, h2]
theorem ex_gone : lessS [aA, aC] (plusS [aC, aB, aC]) = [aA] := by
  rw [ex_plus, less_eq rise_bc (by decide)]
  have h1 : inS [aB, aC] aA = false := (inS_false_iff _ _).2 (by simp [ne_ab, ne_ac])
  have h2 : inS [aB, aC] aC = true := (inS_iff _ _).2 (by simp)
  simp [h1, h2]
theorem ex_apply : applyS 1 [aA, aC] 2 [aB] [aA] = (2, [aB, aC], 0) := by
  have h := led_apply ex_led
  rw [ex_add, ex_gone, ex_plus] at h
  exact h
theorem ex_diff : diffS 1 [aA, aC] [aC, aB, aC] = (2, [aB], [aA], 0) := by
  have h := ex_led
  unfold diffS
  rw [if_pos (good_iff.2 h.good), if_neg h.vmax, if_pos (by simpa [toksB] using h.tok), if_neg (by have := h.few; omega), ex_add, ex_gone]
  rfl
theorem ex_has : inS [aB, aC] aB = true := (inS_iff _ _).2 (by simp)

def sA : Value := Value.string ⟨#[97, 97, 97, 97, 97, 97, 97, 97]⟩
theorem v_ac : (strsV [aA, aC]).toArray = #[Value.string ⟨#[97, 97, 97, 97, 97, 97, 97, 97]⟩, Value.string ⟨#[99, 99, 99, 99, 99, 99, 99, 99]⟩] := rfl
theorem v_b : (strsV [aB]).toArray = #[Value.string ⟨#[98, 98, 98, 98, 98, 98, 98, 98]⟩] := rfl
theorem v_a : (strsV [aA]).toArray = #[Value.string ⟨#[97, 97, 97, 97, 97, 97, 97, 97]⟩] := rfl
theorem v_cbc : (strsV [aC, aB, aC]).toArray = #[Value.string ⟨#[99, 99, 99, 99, 99, 99, 99, 99]⟩, Value.string ⟨#[98, 98, 98, 98, 98, 98, 98, 98]⟩, Value.string ⟨#[99, 99, 99, 99, 99, 99, 99, 99]⟩] := rfl
set_option maxHeartbeats 4000000 in
theorem awake_any (w : World) : Calls Try.prog 8 #[] w fun e w' => e = .returned (.bool true) ∧ Below w.heap.size w w' := by
  obtain ⟨W1, hW1⟩ : ∃ W1, W1 = (((((w.alloc (.cells #[Value.string ⟨#[97, 97, 97, 97, 97, 97, 97, 97]⟩, Value.string ⟨#[99, 99, 99, 99, 99, 99, 99, 99]⟩] 9)).alloc (.cells #[.int .i64 1, .slice (some ⟨w.heap.size, 0, none⟩) 2 2] 24)).alloc (.cells #[Value.string ⟨#[98, 98, 98, 98, 98, 98, 98, 98]⟩] 9)).alloc (.cells #[Value.string ⟨#[97, 97, 97, 97, 97, 97, 97, 97]⟩] 9)).alloc
    (.cells #[.int .i64 2, .slice (some ⟨w.heap.size + 1 + 1, 0, none⟩) 1 1, .slice (some ⟨w.heap.size + 1 + 1 + 1, 0, none⟩) 1 1] 26)) := ⟨_, rfl⟩
  have k0 : Blk W1 w.heap.size 9 (strsV [aA, aC]).toArray := by rw [hW1, v_ac]; exact ((((Blk.new w 9 _).alloc _).alloc _).alloc _).alloc _
  have k1 : Blk W1 (w.heap.size + 1) 24 #[.int .i64 1, .slice (some ⟨w.heap.size, 0, none⟩) 2 2] := by rw [hW1]; exact (((Blk.new_ _ _ _ (by simp)).alloc _).alloc _).alloc _
  have hB1 : Below w.heap.size w W1 := by
    rw [hW1]
    exact (((((Below.refl _ _).alloc (Nat.le_refl _) _).alloc (by simp) _).alloc (by simp; omega) _).alloc (by simp; omega) _).alloc (by simp; omega) _
  have k2 : Blk W1 (w.heap.size + 1 + 1) 9 (strsV [aB]).toArray := by rw [hW1, v_b]; exact ((Blk.new_ _ _ _ (by simp)).alloc _).alloc _
  have k3 : Blk W1 (w.heap.size + 1 + 1 + 1) 9 (strsV [aA]).toArray := by rw [hW1, v_a]; exact (Blk.new_ _ _ _ (by simp)).alloc _
  have k4 : Blk W1 (w.heap.size + 1 + 1 + 1 + 1) 26 #[.int .i64 2, .slice (some ⟨w.heap.size + 1 + 1, 0, none⟩) 1 1, .slice (some ⟨w.heap.size + 1 + 1 + 1, 0, none⟩) 1 1] := by rw [hW1]; exact Blk.new_ _ _ _ (by simp)
  have hz1 : w.heap.size + 1 + 1 + 1 + 1 + 1 = W1.heap.size := by rw [hW1]; simp
  have HW1 := Lib.hid hW1
  clear hW1
  have c0 := C_of_blk k0 (by decide)
  have c2 := C_of_blk k2 (by decide)
  have c3 := C_of_blk k3 (by decide)
  go_enter Try.func8, Try.ntmps8
  go_wp2_with fail
  rw [← HW1.out]
  refine (XB.risk_Apply.calls 1 1 (some ⟨w.heap.size, 0, none⟩) 2 [aA, aC] 2 (some ⟨w.heap.size + 1 + 1, 0, none⟩) 1 [aB] (some ⟨w.heap.size + 1 + 1 + 1, 0, none⟩) 1 [aA] 2 [aB, aC] 0 W1 c0 (Nat.le_refl _) c2 (Nat.le_refl _) c3 (Nat.le_refl _) ((apply_total _ _ _ _ _ (by decide) (by decide) 0).trans (congrArg some ex_apply))).mono ?_
  rintro e w2 ⟨v1_, rfl, hV, hb⟩
  clear c2 c3
  obtain ⟨A1, c1, rfl, hl1, hF⟩ := VW_V hV
  have hC1 := Kd.F_now hF
  have hlen : ([aB, aC] : List ByteArray).length = 2 := rfl
  rw [hlen] at hC1 hl1 ⊢
  clear hF hlen
  have hz2 : w.heap.size + 1 + 1 + 1 + 1 + 1 ≤ w2.heap.size := by have := hb.size; omega
  have m0 := k0.below hb (by omega)
  have m1 := k1.below hb (by omega)
  have m2 := k2.below hb (by omega)
  have m3 := k3.below hb (by omega)
  have m4 := k4.below hb (by omega)
  have hB2 := hB1.trans (hb.mono (show w.heap.size ≤ W1.heap.size by omega))
  clear c0 k0 k1 k2 k3 k4 hB1 hb hz1 HW1
  have x1 : ∀ o1, (w2.alloc o1).cell? ⟨w.heap.size + 1, 0, none⟩ = some (.int .i64 1) := fun o1 => (m1.alloc o1).cell 0
  have x2 : ∀ o1, (w2.alloc o1).cell? ⟨w.heap.size + 1, 1, none⟩ = some (.slice (some ⟨w.heap.size, 0, none⟩) 2 2) := fun o1 => (m1.alloc o1).cell 1
  go_wp2_with fail
  have HB2 := Lib.hid hB2
  clear x1 x2 hB2
  obtain ⟨W3, hW3⟩ : ∃ W3, W3 = (w2.alloc (.cells #[.int .i64 2, .slice A1 2 c1] 24)).alloc (.cells (strsV [aC, aB, aC]).toArray 9) := ⟨_, rfl⟩
  have n0 : Blk W3 w.heap.size 9 (strsV [aA, aC]).toArray := by rw [hW3]; exact (m0.alloc _).alloc _
  have n2 : Blk W3 (w.heap.size + 1 + 1) 9 (strsV [aB]).toArray := by rw [hW3]; exact (m2.alloc _).alloc _
  have n3 : Blk W3 (w.heap.size + 1 + 1 + 1) 9 (strsV [aA]).toArray := by rw [hW3]; exact (m3.alloc _).alloc _
  have n4 : Blk W3 (w.heap.size + 1 + 1 + 1 + 1) 26 #[.int .i64 2, .slice (some ⟨w.heap.size + 1 + 1, 0, none⟩) 1 1, .slice (some ⟨w.heap.size + 1 + 1 + 1, 0, none⟩) 1 1] := by rw [hW3]; exact (m4.alloc _).alloc _
  have n5 : Blk W3 w2.heap.size 24 #[.int .i64 2, .slice A1 2 c1] := by rw [hW3]; exact (Blk.new_ _ _ _ rfl).alloc _
  have n6 : Blk W3 (w2.heap.size + 1) 9 (strsV [aC, aB, aC]).toArray := by rw [hW3]; exact Blk.new_ _ _ _ (by simp)
  have hB3 : Below w.heap.size w W3 := by rw [hW3]; exact (HB2.out.alloc (by omega) _).alloc (by simp; omega) _
  have hC3 : Kd.C Kd.string W3 A1 2 [aB, aC] := Kd.C_below hC1 (by rw [hW3]; exact ((Below.refl _ _).alloc (Nat.le_refl _) _).alloc (by simp) _)
  have hz3 : w2.heap.size + 1 < W3.heap.size := n6.lt
  rw [v_cbc] at hW3
  rw [← hW3]
  clear hW3 m0 m1 m2 m3 m4 HB2 hC1
  refine (XB.risk_Diff.calls 1 1 (some ⟨w.heap.size, 0, none⟩) 2 [aA, aC] (some ⟨w2.heap.size + 1, 0, none⟩) 3 [aC, aB, aC] 2 [aB] [aA] 0 W3 (C_of_blk n0 (by decide)) (Nat.le_refl _) (C_of_blk n6 (by decide)) (Nat.le_refl _) ((diff_total _ _ _ (by decide) (by decide) 0).trans (congrArg some ex_diff))).mono ?_
  rintro e w4 ⟨v1_, v2_, rfl, hR1, hR2, hb⟩
  obtain ⟨A5, c5, rfl, hl5, hC5⟩ := Kd.R_reads hR1
  obtain ⟨A6, c6, rfl, hl6, hC6⟩ := Kd.R_reads hR2
  have hlen5 : ([aB] : List ByteArray).length = 1 := rfl
  have hlen6 : ([aA] : List ByteArray).length = 1 := rfl
  rw [hlen5] at hC5 hl5 ⊢
  rw [hlen6] at hC6 hl6 ⊢
  clear hR1 hR2 hlen5 hlen6
  have m2 := n2.below hb (by omega)
  have m3 := n3.below hb (by omega)
  have m4 := n4.below hb (by omega)
  have m5 := n5.below hb (by omega)
  have hB4 := hB3.trans (hb.mono (show w.heap.size ≤ W3.heap.size by omega))
  have hC4 := Kd.C_below hC3 hb
  have hz4 : W3.heap.size ≤ w4.heap.size := hb.size
  clear n0 n2 n3 n4 n5 n6 hB3 hC3 hb
  obtain ⟨W5, hW5⟩ : ∃ W5, W5 = w4.alloc (.cells #[.int .i64 2, .slice A5 1 c5, .slice A6 1 c6] 26) := ⟨_, rfl⟩
  have n2 : Blk W5 (w.heap.size + 1 + 1) 9 (strsV [aB]).toArray := by rw [hW5]; exact m2.alloc _
  have n3 : Blk W5 (w.heap.size + 1 + 1 + 1) 9 (strsV [aA]).toArray := by rw [hW5]; exact m3.alloc _
  have n4 : Blk W5 (w.heap.size + 1 + 1 + 1 + 1) 26 #[.int .i64 2, .slice (some ⟨w.heap.size + 1 + 1, 0, none⟩) 1 1, .slice (some ⟨w.heap.size + 1 + 1 + 1, 0, none⟩) 1 1] := by rw [hW5]; exact m4.alloc _
  have n5 : Blk W5 w2.heap.size 24 #[.int .i64 2, .slice A1 2 c1] := by rw [hW5]; exact m5.alloc _
  have hB5 : Below w.heap.size w W5 := by rw [hW5]; exact hB4.alloc (by omega) _
  have hb5 : Below w4.heap.size w4 W5 := by rw [hW5]; exact (Below.refl _ _).alloc (Nat.le_refl _) _
  have x0 : ∀ o1, (w4.alloc o1).cell? ⟨w.heap.size + 1 + 1 + 1 + 1, 0, none⟩ = some (.int .i64 2) := fun o1 => (m4.alloc o1).cell 0
  have x1 : ∀ o1, (w4.alloc o1).cell? ⟨w.heap.size + 1 + 1 + 1 + 1, 1, none⟩ = some (.slice (some ⟨w.heap.size + 1 + 1, 0, none⟩) 1 1) := fun o1 => (m4.alloc o1).cell 1
  have x2 : ∀ o1, (w4.alloc o1).cell? ⟨w.heap.size + 1 + 1 + 1 + 1, 2, none⟩ = some (.slice (some ⟨w.heap.size + 1 + 1 + 1, 0, none⟩) 1 1) := fun o1 => (m4.alloc o1).cell 2
  have HC5 := Kd.C_below hC5 hb5
  have HC6 := Kd.C_below hC6 hb5
  have HC4 := Kd.C_below hC4 hb5
  have hz5 : w4.heap.size < W5.heap.size := by rw [hW5]; simp
  have HW5 := Lib.hid hW5
  have HB5 := Lib.hid hB5
  clear hW5 hB5 hb5 hB4 hC4 hC5 hC6 m2 m3 m4 m5
  go_wp2_with fail
  rw [← HW5.out]
  clear x0 x1 x2
  refine (XB.fareboxref13_SameDelta.calls 2 A5 c5 [aB] A6 c6 [aA] 2 (some ⟨w.heap.size + 1 + 1, 0, none⟩) 1 [aB] (some ⟨w.heap.size + 1 + 1 + 1, 0, none⟩) 1 [aA] true W5 HC5 hl5 HC6 hl6 (C_of_blk n2 (by decide)) (Nat.le_refl _) (C_of_blk n3 (by decide)) (Nat.le_refl _) ?_).mono ?_
  · unfold XB.fareboxref13_SameDelta.f XB.fareboxref13_SameTokens.f
    rw [(sameS_iff [aB] [aB]).2 rfl, (sameS_iff [aA] [aA]).2 rfl]
    rfl
  rintro e w6 ⟨rfl, hb⟩
  have m5 := n5.below hb (by omega)
  have hB6 := HB5.out.trans (hb.mono (show w.heap.size ≤ W5.heap.size by omega))
  have hC6 := Kd.C_below HC4 hb
  have HB6 := Lib.hid hB6
  have hz6 : W5.heap.size ≤ w6.heap.size := hb.size
  clear n2 n3 n4 n5 hb hB6 HB5 HW5 HC5 HC6 HC4
  have x0 := m5.cell 0
  have x1 := m5.cell 1
  simp at x0 x1
  go_wp2_with fail
  refine (XB.risk_Has.calls 2 A1 c1 [aB, aC] aB true w6 hC6 hl1 (congrArg some ex_has)).mono ?_
  rintro e w7 ⟨rfl, hb⟩
  have m6 := m5.below hb (by omega)
  have HB7 := Lib.hid (HB6.out.trans (hb.mono (show w.heap.size ≤ w6.heap.size by omega)))
  have y0 := m6.cell 0
  have y1 := m6.cell 1
  simp at y0 y1
  clear x0 x1 m5 m6 hb HB6 hC6
  go_wp2
  go_ret
  exact ⟨rfl, HB7.out⟩
end Go.Proofs.Ytodonkgheffibaa.Hand
