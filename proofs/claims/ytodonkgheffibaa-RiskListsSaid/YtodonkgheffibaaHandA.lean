/- fareboxlaw13.RiskLists by hand: the walk. -/
import Derived.Test.YtodonkgheffibaaHand9
namespace Go.Proofs.Ytodonkgheffibaa.Hand
open Go.RowKit Go.Proofs.YtodonkgheffibaaW.PrintWords Go.Proofs.YtodonkgheffibaaW.PrintMore
open Go.Proofs.Ytodonkgheffibaa Go.Proofs.Ytodonkgheffibaa.PA Go.Proofs.Ytodonkgheffibaa.PB Go.Proofs.Ytodonkgheffibaa.PC

theorem apply_few (v : Int) (l : List ByteArray) (dv : Int) (a g : List ByteArray) : (applyS v l dv a g).2.1.length ≤ 1000 := by
  unfold applyS
  repeat' split
  all_goals first | (simp; done) | (simp; omega)
def ListsPost (w : World) (e : Ending) (w' : World) : Prop := e = .returned (.bool true) ∧ Below w.heap.size w w'
set_option maxHeartbeats 8000000 in
theorem lists_any (v : Int) (A : Option Addr) (c : Nat) (l : List ByteArray) (dv : Int) (A1 A2 : Option Addr) (c1 c2 : Nat) (l1 l2 : List ByteArray) (s : ByteArray) (w : World) (hr : Kd.C Kd.string w A l.length l) (hc : l.length ≤ c)
    (h1 : Kd.C Kd.string w A1 l1.length l1) (hc1 : l1.length ≤ c1) (h2 : Kd.C Kd.string w A2 l2.length l2) (hc2 : l2.length ≤ c2) (hdv : dv ≤ 9223372036854775807)
    (b0 : l.length * 16 ≤ 140737488351232) (b1 : l1.length * 16 ≤ 140737488351232) (b2 : l2.length * 16 ≤ 140737488351232) :
    Calls Try.prog 3 #[.agg #[.int .i64 v, .slice A l.length c], .agg #[.int .i64 dv, .slice A1 l1.length c1, .slice A2 l2.length c2], .string s] w (ListsPost w) := by
  have hL := Lib.hid hr
  have hL1 := Lib.hid h1
  have hL2 := Lib.hid h2
  clear hr h1 h2
  obtain ⟨W1, hW1⟩ : ∃ W1, W1 = (w.alloc (.cells #[.int .i64 v, .slice A l.length c] 24)).alloc (.cells #[.int .i64 dv, .slice A1 l1.length c1, .slice A2 l2.length c2] 26) := ⟨_, rfl⟩
  obtain ⟨g3, hg3⟩ : ∃ g, g = w.heap.size := ⟨_, rfl⟩
  obtain ⟨g4, hg4⟩ : ∃ g, g = w.heap.size + 1 := ⟨_, rfl⟩
  have K3 : Blk W1 g3 24 #[.int .i64 v, .slice A l.length c] := by rw [hW1, hg3]; exact (Blk.new w 24 _).alloc _
  have K4 : Blk W1 g4 26 #[.int .i64 dv, .slice A1 l1.length c1, .slice A2 l2.length c2] := by rw [hW1, hg4]; exact Blk.new_ _ _ _ (by simp)
  have HB : Below w.heap.size w W1 := by rw [hW1]; exact ((Below.refl _ _).alloc (Nat.le_refl _) _).alloc (by simp) _
  have n34 : g3 < g4 := by omega
  have n3 : w.heap.size ≤ g3 := by omega
  have HW1 := Lib.hid hW1
  clear hW1
  go_enter Try.func3, Try.ntmps3
  go_wp2_with fail
  rw [← HW1.out, ← hg4, ← hg3]
  clear HW1
  refine (awake_any W1).mono ?_
  rintro e w2 ⟨rfl, hb⟩
  replace K3 := K3.below hb K3.lt
  replace K4 := K4.below hb K4.lt
  replace HB := HB.trans (hb.mono HB.size)
  clear hb
  clear hg3 hg4
  have x1 : w2.cell? ⟨g3, 0, none⟩ = some (.int .i64 v) := K3.cell 0
  have x2 : w2.cell? ⟨g3, 1, none⟩ = some (.slice A l.length c) := K3.cell 1
  have x3 : ∀ o, (w2.alloc o).cell? ⟨g3, 1, none⟩ = some (.slice A l.length c) := fun o => (K3.alloc o).cell 1
  go_wp2_with fail
  clear x1 x2 x3
  obtain ⟨W3, hW3⟩ : ∃ W3, W3 = w2.alloc (.cells #[.int .i64 v, .slice A l.length c] 24) := ⟨_, rfl⟩
  obtain ⟨g8, hg8⟩ : ∃ g, g = w2.heap.size := ⟨_, rfl⟩
  have K8 : Blk W3 g8 24 #[.int .i64 v, .slice A l.length c] := by rw [hW3, hg8]; exact Blk.new w2 24 _
  have n48 : g4 < g8 := by rw [hg8]; exact K4.lt
  replace K3 : Blk W3 g3 24 #[.int .i64 v, .slice A l.length c] := by rw [hW3]; exact K3.alloc _
  replace K4 : Blk W3 g4 26 #[.int .i64 dv, .slice A1 l1.length c1, .slice A2 l2.length c2] := by rw [hW3]; exact K4.alloc _
  replace HB : Below w.heap.size w W3 := by rw [hW3]; exact HB.alloc HB.size _
  rw [← hW3, ← hg8]
  clear hW3 hg8
  refine (lent_any A c l W3 (Kd.C_below hL.out HB) (by omega)).mono ?_
  rintro e w3 ⟨gl, nl, rfl, KL, hb⟩
  have n8l : g8 < gl := Nat.lt_of_lt_of_le K8.lt nl
  clear nl
  replace K3 := K3.below hb K3.lt
  replace K4 := K4.below hb K4.lt
  replace K8 := K8.below hb K8.lt
  replace HB := HB.trans (hb.mono HB.size)
  clear hb
  have y0 : w3.cell? ⟨g8, 1, none⟩ = some (.slice A l.length c) := K8.cell 1
  have y1 := K8.frozen 1
  have z0 : ∀ u, (w3.setCell ⟨g8, 1, none⟩ u).cell? ⟨g4, 0, none⟩ = some (.int .i64 dv) := fun u => (K4.far 1 u (by omega)).cell 0
  have z1 : ∀ u, (w3.setCell ⟨g8, 1, none⟩ u).cell? ⟨g4, 1, none⟩ = some (.slice A1 l1.length c1) := fun u => (K4.far 1 u (by omega)).cell 1
  have z2 : ∀ u, (w3.setCell ⟨g8, 1, none⟩ u).cell? ⟨g4, 2, none⟩ = some (.slice A2 l2.length c2) := fun u => (K4.far 1 u (by omega)).cell 2
  have z3 : ∀ u o, ((w3.setCell ⟨g8, 1, none⟩ u).alloc o).cell? ⟨g4, 1, none⟩ = some (.slice A1 l1.length c1) := fun u o => ((K4.far 1 u (by omega)).alloc o).cell 1
  go_wp2_with fail
  clear y0 y1 z0 z1 z2 z3
  obtain ⟨W4, hW4⟩ : ∃ W4, W4 = (w3.setCell ⟨g8, 1, none⟩ (.slice (some ⟨gl, 0, none⟩) l.length (l.length + 1))).alloc (.cells #[.int .i64 dv, .slice A1 l1.length c1, .slice A2 l2.length c2] 26) := ⟨_, rfl⟩
  obtain ⟨g9, hg9⟩ : ∃ g, g = w3.heap.size := ⟨_, rfl⟩
  have hz : (w3.setCell ⟨g8, 1, none⟩ (.slice (some ⟨gl, 0, none⟩) l.length (l.length + 1))).heap.size = g9 := by rw [hg9]; simp [World.setCell]
  have nl9 : gl < g9 := by rw [hg9]; exact KL.lt
  have K9 : Blk W4 g9 26 #[.int .i64 dv, .slice A1 l1.length c1, .slice A2 l2.length c2] := by rw [hW4]; exact Blk.new_ _ _ _ hz
  replace K3 : Blk W4 g3 24 #[.int .i64 v, .slice A l.length c] := by rw [hW4]; exact (K3.far 1 _ (by omega)).alloc _
  replace K4 : Blk W4 g4 26 #[.int .i64 dv, .slice A1 l1.length c1, .slice A2 l2.length c2] := by rw [hW4]; exact (K4.far 1 _ (by omega)).alloc _
  replace KL : Blk W4 gl 9 (strsV (l ++ [mark])).toArray := by rw [hW4]; exact (KL.far 1 _ (by omega)).alloc _
  replace K8 : Blk W4 g8 24 #[.int .i64 v, .slice (some ⟨gl, 0, none⟩) l.length (l.length + 1)] := by rw [hW4]; exact (K8.set 1 _).alloc _
  replace HB : Below w.heap.size w W4 := by rw [hW4]; exact below_alloc (below_set HB (by omega)) _
  rw [← hW4, ← hg9]
  clear hW4 hg9 hz
  refine (lent_any A1 c1 l1 W4 (Kd.C_below hL1.out HB) (by omega)).mono ?_
  rintro e w4 ⟨gm, nm, rfl, KM, hb⟩
  have n9m : g9 < gm := Nat.lt_of_lt_of_le K9.lt nm
  clear nm
  replace K3 := K3.below hb K3.lt
  replace K4 := K4.below hb K4.lt
  replace K8 := K8.below hb K8.lt
  replace KL := KL.below hb KL.lt
  replace K9 := K9.below hb K9.lt
  replace HB := HB.trans (hb.mono HB.size)
  clear hb
  have y0 : w4.cell? ⟨g9, 1, none⟩ = some (.slice A1 l1.length c1) := K9.cell 1
  have y1 := K9.frozen 1
  have z0 : ∀ u, (w4.setCell ⟨g9, 1, none⟩ u).cell? ⟨g4, 2, none⟩ = some (.slice A2 l2.length c2) := fun u => (K4.far 1 u (by omega)).cell 2
  go_wp2_with fail
  clear y0 y1 z0
  obtain ⟨W5, hW5⟩ : ∃ W5, W5 = w4.setCell ⟨g9, 1, none⟩ (.slice (some ⟨gm, 0, none⟩) l1.length (l1.length + 1)) := ⟨_, rfl⟩
  replace K3 : Blk W5 g3 24 #[.int .i64 v, .slice A l.length c] := by rw [hW5]; exact K3.far 1 _ (by omega)
  replace K4 : Blk W5 g4 26 #[.int .i64 dv, .slice A1 l1.length c1, .slice A2 l2.length c2] := by rw [hW5]; exact K4.far 1 _ (by omega)
  replace K8 : Blk W5 g8 24 #[.int .i64 v, .slice (some ⟨gl, 0, none⟩) l.length (l.length + 1)] := by rw [hW5]; exact K8.far 1 _ (by omega)
  replace KL : Blk W5 gl 9 (strsV (l ++ [mark])).toArray := by rw [hW5]; exact KL.far 1 _ (by omega)
  replace KM : Blk W5 gm 9 (strsV (l1 ++ [mark])).toArray := by rw [hW5]; exact KM.far 1 _ (by omega)
  replace K9 : Blk W5 g9 26 #[.int .i64 dv, .slice (some ⟨gm, 0, none⟩) l1.length (l1.length + 1), .slice A2 l2.length c2] := by rw [hW5]; exact K9.set 1 _
  replace HB : Below w.heap.size w W5 := by rw [hW5]; exact below_set HB (by omega)
  rw [← hW5]
  clear hW5
  refine (lent_any A2 c2 l2 W5 (Kd.C_below hL2.out HB) (by omega)).mono ?_
  rintro e w5 ⟨gn, nn, rfl, KN, hb⟩
  have nmn : gm < gn := Nat.lt_of_lt_of_le KM.lt nn
  clear nn
  replace K3 := K3.below hb K3.lt
  replace K4 := K4.below hb K4.lt
  replace K8 := K8.below hb K8.lt
  replace KL := KL.below hb KL.lt
  replace K9 := K9.below hb K9.lt
  replace KM := KM.below hb KM.lt
  replace HB := HB.trans (hb.mono HB.size)
  clear hb
  have y0 : w5.cell? ⟨g9, 2, none⟩ = some (.slice A2 l2.length c2) := K9.cell 2
  have y1 := K9.frozen 2
  have z0 : ∀ u, (w5.setCell ⟨g9, 2, none⟩ u).cell? ⟨g8, 0, none⟩ = some (.int .i64 v) := fun u => (K8.far 2 u (by omega)).cell 0
  have z1 : ∀ u, (w5.setCell ⟨g9, 2, none⟩ u).cell? ⟨g8, 1, none⟩ = some (.slice (some ⟨gl, 0, none⟩) l.length (l.length + 1)) := fun u => (K8.far 2 u (by omega)).cell 1
  go_wp2_with fail
  clear y0 y1 z0 z1
  obtain ⟨W6, hW6⟩ : ∃ W6, W6 = w5.setCell ⟨g9, 2, none⟩ (.slice (some ⟨gn, 0, none⟩) l2.length (l2.length + 1)) := ⟨_, rfl⟩
  replace K3 : Blk W6 g3 24 #[.int .i64 v, .slice A l.length c] := by rw [hW6]; exact K3.far 2 _ (by omega)
  replace K4 : Blk W6 g4 26 #[.int .i64 dv, .slice A1 l1.length c1, .slice A2 l2.length c2] := by rw [hW6]; exact K4.far 2 _ (by omega)
  replace K8 : Blk W6 g8 24 #[.int .i64 v, .slice (some ⟨gl, 0, none⟩) l.length (l.length + 1)] := by rw [hW6]; exact K8.far 2 _ (by omega)
  replace KL : Blk W6 gl 9 (strsV (l ++ [mark])).toArray := by rw [hW6]; exact KL.far 2 _ (by omega)
  replace KM : Blk W6 gm 9 (strsV (l1 ++ [mark])).toArray := by rw [hW6]; exact KM.far 2 _ (by omega)
  replace KN : Blk W6 gn 9 (strsV (l2 ++ [mark])).toArray := by rw [hW6]; exact KN.far 2 _ (by omega)
  replace K9 : Blk W6 g9 26 #[.int .i64 dv, .slice (some ⟨gm, 0, none⟩) l1.length (l1.length + 1), .slice (some ⟨gn, 0, none⟩) l2.length (l2.length + 1)] := by rw [hW6]; exact K9.set 2 _
  replace HB : Below w.heap.size w W6 := by rw [hW6]; exact below_set HB (by omega)
  rw [← hW6]
  clear hW6
  refine (right_law v (some ⟨gl, 0, none⟩) (l.length + 1) l W6 (C_head KL (by omega)) (Nat.le_succ _)).mono ?_
  rintro e w6 ⟨rfl, hb⟩
  replace K3 := K3.below hb K3.lt
  replace K4 := K4.below hb K4.lt
  replace K8 := K8.below hb K8.lt
  replace KL := KL.below hb KL.lt
  replace K9 := K9.below hb K9.lt
  replace KM := KM.below hb KM.lt
  replace KN := KN.below hb KN.lt
  replace HB := HB.trans (hb.mono HB.size)
  clear hb
  have x0 : w6.cell? ⟨g8, 0, none⟩ = some (.int .i64 v) := K8.cell 0
  have x1 : w6.cell? ⟨g8, 1, none⟩ = some (.slice (some ⟨gl, 0, none⟩) l.length (l.length + 1)) := K8.cell 1
  go_wp2_with fail
  refine (token_any s _).mono ?_
  rintro e _ ⟨rfl, rfl⟩
  go_wp2_with fail
  clear x0 x1
  refine (has_law v (some ⟨gl, 0, none⟩) (l.length + 1) l s w6 (C_head KL (by omega)) (Nat.le_succ _)).mono ?_
  rintro e w7 ⟨rfl, hb⟩
  replace K3 := K3.below hb K3.lt
  replace K4 := K4.below hb K4.lt
  replace K8 := K8.below hb K8.lt
  replace KL := KL.below hb KL.lt
  replace K9 := K9.below hb K9.lt
  replace KM := KM.below hb KM.lt
  replace KN := KN.below hb KN.lt
  replace HB := HB.trans (hb.mono HB.size)
  clear hb
  obtain ⟨ba, hba⟩ : ∃ b, b = w7.heap.size := ⟨_, rfl⟩
  have nna : gn < ba := by rw [hba]; exact KN.lt
  obtain ⟨Q, hQ⟩ : ∃ Q, applyS v l dv l1 l2 = Q := ⟨_, rfl⟩
  have hfew := apply_few v l dv l1 l2
  rw [hQ] at hfew
  have HQ := Lib.hid hQ
  clear hQ
  have x0 : w7.cell? ⟨g8, 0, none⟩ = some (.int .i64 v) := K8.cell 0
  have x1 : w7.cell? ⟨g8, 1, none⟩ = some (.slice (some ⟨gl, 0, none⟩) l.length (l.length + 1)) := K8.cell 1
  have u0 : w7.cell? ⟨g9, 0, none⟩ = some (.int .i64 dv) := K9.cell 0
  have u1 : w7.cell? ⟨g9, 1, none⟩ = some (.slice (some ⟨gm, 0, none⟩) l1.length (l1.length + 1)) := K9.cell 1
  have u2 : w7.cell? ⟨g9, 2, none⟩ = some (.slice (some ⟨gn, 0, none⟩) l2.length (l2.length + 1)) := K9.cell 2
  go_wp2_with fail
  clear x0 x1 u0 u1 u2
  have hap := apply_law v (some ⟨gl, 0, none⟩) (l.length + 1) l dv (some ⟨gm, 0, none⟩) (some ⟨gn, 0, none⟩) (l1.length + 1) (l2.length + 1) l1 l2 w7 (C_head KL (by omega)) (Nat.le_succ _) (C_head KM (by omega)) (Nat.le_succ _) (C_head KN (by omega)) (Nat.le_succ _) hdv (by omega)
  rw [HQ.out, ← hba] at hap
  refine hap.mono ?_
  clear hap
  rintro e w8 ⟨va, rfl, hVa, hb⟩
  rw [hba] at hb
  clear hba
  replace K3 := K3.below hb K3.lt
  replace K4 := K4.below hb K4.lt
  replace K8 := K8.below hb K8.lt
  replace KL := KL.below hb KL.lt
  replace K9 := K9.below hb K9.lt
  replace KM := KM.below hb KM.lt
  replace KN := KN.below hb KN.lt
  replace HB := HB.trans (hb.mono HB.size)
  clear hb
  obtain ⟨Aa, ca, rfl⟩ := VW_slice hVa
  obtain ⟨g13, hg13⟩ : ∃ g, g = w8.heap.size := ⟨_, rfl⟩
  replace hVa := VW_bound hVa
  rw [← hg13] at hVa
  have nn13 : gn < g13 := by rw [hg13]; exact KN.lt
  have x0 : ∀ o, (w8.alloc o).cell? ⟨g8, 0, none⟩ = some (.int .i64 v) := fun o => (K8.alloc o).cell 0
  have x1 : ∀ o, (w8.alloc o).cell? ⟨g8, 1, none⟩ = some (.slice (some ⟨gl, 0, none⟩) l.length (l.length + 1)) := fun o => (K8.alloc o).cell 1
  have u0 : ∀ o, (w8.alloc o).cell? ⟨g9, 0, none⟩ = some (.int .i64 dv) := fun o => (K9.alloc o).cell 0
  have u1 : ∀ o, (w8.alloc o).cell? ⟨g9, 1, none⟩ = some (.slice (some ⟨gm, 0, none⟩) l1.length (l1.length + 1)) := fun o => (K9.alloc o).cell 1
  have u2 : ∀ o, (w8.alloc o).cell? ⟨g9, 2, none⟩ = some (.slice (some ⟨gn, 0, none⟩) l2.length (l2.length + 1)) := fun o => (K9.alloc o).cell 2
  go_wp2_with fail
  clear x0 x1 u0 u1 u2
  obtain ⟨W8, hW8⟩ : ∃ W8, W8 = w8.alloc (.cells #[.int .i64 Q.1, .slice Aa Q.2.1.length ca] 24) := ⟨_, rfl⟩
  replace K3 : Blk W8 g3 24 #[.int .i64 v, .slice A l.length c] := by rw [hW8]; exact K3.alloc _
  replace K4 : Blk W8 g4 26 #[.int .i64 dv, .slice A1 l1.length c1, .slice A2 l2.length c2] := by rw [hW8]; exact K4.alloc _
  replace K8 : Blk W8 g8 24 #[.int .i64 v, .slice (some ⟨gl, 0, none⟩) l.length (l.length + 1)] := by rw [hW8]; exact K8.alloc _
  replace KL : Blk W8 gl 9 (strsV (l ++ [mark])).toArray := by rw [hW8]; exact KL.alloc _
  replace K9 : Blk W8 g9 26 #[.int .i64 dv, .slice (some ⟨gm, 0, none⟩) l1.length (l1.length + 1), .slice (some ⟨gn, 0, none⟩) l2.length (l2.length + 1)] := by rw [hW8]; exact K9.alloc _
  replace KM : Blk W8 gm 9 (strsV (l1 ++ [mark])).toArray := by rw [hW8]; exact KM.alloc _
  replace KN : Blk W8 gn 9 (strsV (l2 ++ [mark])).toArray := by rw [hW8]; exact KN.alloc _
  have K13 : Blk W8 g13 24 #[.int .i64 Q.1, .slice Aa Q.2.1.length ca] := by rw [hW8, hg13]; exact Blk.new w8 24 _
  replace hVa := VW_alloc hVa (.cells #[.int .i64 Q.1, .slice Aa Q.2.1.length ca] 24)
  rw [← hW8] at hVa
  replace HB : Below w.heap.size w W8 := by rw [hW8]; exact below_alloc HB _
  rw [← hW8, ← hg13]
  clear hW8 hg13
  obtain ⟨bb, hbb⟩ : ∃ b, b = W8.heap.size := ⟨_, rfl⟩
  have n13b : g13 < bb := by rw [hbb]; exact K13.lt
  have hap := apply_law v (some ⟨gl, 0, none⟩) (l.length + 1) l dv (some ⟨gm, 0, none⟩) (some ⟨gn, 0, none⟩) (l1.length + 1) (l2.length + 1) l1 l2 W8 (C_head KL (by omega)) (Nat.le_succ _) (C_head KM (by omega)) (Nat.le_succ _) (C_head KN (by omega)) (Nat.le_succ _) hdv (by omega)
  rw [HQ.out, ← hbb] at hap
  refine hap.mono ?_
  clear hap
  rintro e w9 ⟨vb, rfl, hVb, hb⟩
  rw [hbb] at hb
  have hbs : bb ≤ w9.heap.size := by rw [hbb]; exact hb.size
  clear hbb
  replace K3 := K3.below hb K3.lt
  replace K4 := K4.below hb K4.lt
  replace K8 := K8.below hb K8.lt
  replace KL := KL.below hb KL.lt
  replace K9 := K9.below hb K9.lt
  replace KM := KM.below hb KM.lt
  replace KN := KN.below hb KN.lt
  replace K13 := K13.below hb K13.lt
  replace hVa := VW_below hVa hb
  replace HB := HB.trans (hb.mono HB.size)
  clear hb
  obtain ⟨Ab, cb, rfl⟩ := VW_slice hVb
  obtain ⟨g15, hg15⟩ : ∃ g, g = w9.heap.size := ⟨_, rfl⟩
  have n1315 : g13 < g15 := by rw [hg15]; exact K13.lt
  rw [← hg15] at hbs
  have x0 : ∀ o, (w9.alloc o).cell? ⟨g8, 1, none⟩ = some (.slice (some ⟨gl, 0, none⟩) l.length (l.length + 1)) := fun o => (K8.alloc o).cell 1
  have x1 : ∀ o, (w9.alloc o).cell? ⟨g3, 1, none⟩ = some (.slice A l.length c) := fun o => (K3.alloc o).cell 1
  go_wp2_with fail
  clear x0 x1
  obtain ⟨W9, hW9⟩ : ∃ W9, W9 = w9.alloc (.cells #[.int .i64 Q.1, .slice Ab Q.2.1.length cb] 24) := ⟨_, rfl⟩
  clear K8
  replace K3 : Blk W9 g3 24 #[.int .i64 v, .slice A l.length c] := by rw [hW9]; exact K3.alloc _
  replace K4 : Blk W9 g4 26 #[.int .i64 dv, .slice A1 l1.length c1, .slice A2 l2.length c2] := by rw [hW9]; exact K4.alloc _
  replace KL : Blk W9 gl 9 (strsV (l ++ [mark])).toArray := by rw [hW9]; exact KL.alloc _
  replace K9 : Blk W9 g9 26 #[.int .i64 dv, .slice (some ⟨gm, 0, none⟩) l1.length (l1.length + 1), .slice (some ⟨gn, 0, none⟩) l2.length (l2.length + 1)] := by rw [hW9]; exact K9.alloc _
  replace KM : Blk W9 gm 9 (strsV (l1 ++ [mark])).toArray := by rw [hW9]; exact KM.alloc _
  replace KN : Blk W9 gn 9 (strsV (l2 ++ [mark])).toArray := by rw [hW9]; exact KN.alloc _
  replace K13 : Blk W9 g13 24 #[.int .i64 Q.1, .slice Aa Q.2.1.length ca] := by rw [hW9]; exact K13.alloc _
  have K15 : Blk W9 g15 24 #[.int .i64 Q.1, .slice Ab Q.2.1.length cb] := by rw [hW9, hg15]; exact Blk.new w9 24 _
  replace hVa := VW_alloc hVa (.cells #[.int .i64 Q.1, .slice Ab Q.2.1.length cb] 24)
  rw [← hW9] at hVa
  replace hVb := VW_alloc hVb (.cells #[.int .i64 Q.1, .slice Ab Q.2.1.length cb] 24)
  rw [← hW9] at hVb
  replace HB : Below w.heap.size w W9 := by rw [hW9]; exact below_alloc HB _
  rw [← hW9, ← hg15]
  clear hW9 hg15
  refine (kept_any gl A c l W9 (Kd.C_below hL.out HB) hc KL (by omega)).mono ?_
  rintro e w10 ⟨rfl, hB⟩
  replace K3 := K3.bar hB (by omega)
  replace K4 := K4.bar hB (by omega)
  clear KL
  replace K9 := K9.bar hB (by omega)
  replace KM := KM.bar hB (by omega)
  replace KN := KN.bar hB (by omega)
  replace K13 := K13.bar hB (by omega)
  replace K15 := K15.bar hB (by omega)
  replace hVa := VW_step hVa (fun k (hk : ba ≤ k ∧ k < g13) hlt => hB.block k hlt (by omega))
  replace hVb := VW_step hVb (fun k (hk : bb ≤ k) hlt => hB.block k hlt (by omega))
  replace HB := HB.trans (hB.below (by omega) HB.size)
  clear hB
  have x0 : w10.cell? ⟨g9, 1, none⟩ = some (.slice (some ⟨gm, 0, none⟩) l1.length (l1.length + 1)) := K9.cell 1
  have x1 : w10.cell? ⟨g4, 1, none⟩ = some (.slice A1 l1.length c1) := K4.cell 1
  go_wp2_with fail
  clear x0 x1
  refine (kept_any gm A1 c1 l1 w10 (Kd.C_below hL1.out HB) hc1 KM (by omega)).mono ?_
  rintro e w11 ⟨rfl, hB⟩
  replace K3 := K3.bar hB (by omega)
  replace K4 := K4.bar hB (by omega)
  replace K9 := K9.bar hB (by omega)
  clear KM
  replace KN := KN.bar hB (by omega)
  replace K13 := K13.bar hB (by omega)
  replace K15 := K15.bar hB (by omega)
  replace hVa := VW_step hVa (fun k (hk : ba ≤ k ∧ k < g13) hlt => hB.block k hlt (by omega))
  replace hVb := VW_step hVb (fun k (hk : bb ≤ k) hlt => hB.block k hlt (by omega))
  replace HB := HB.trans (hB.below (by omega) HB.size)
  clear hB
  have x0 : w11.cell? ⟨g9, 2, none⟩ = some (.slice (some ⟨gn, 0, none⟩) l2.length (l2.length + 1)) := K9.cell 2
  have x1 : w11.cell? ⟨g4, 2, none⟩ = some (.slice A2 l2.length c2) := K4.cell 2
  go_wp2_with fail
  clear x0 x1
  refine (kept_any gn A2 c2 l2 w11 (Kd.C_below hL2.out HB) hc2 KN (by omega)).mono ?_
  rintro e w12 ⟨rfl, hB⟩
  replace K3 := K3.bar hB (by omega)
  replace K4 := K4.bar hB (by omega)
  clear K9
  clear KN
  replace K13 := K13.bar hB (by omega)
  replace K15 := K15.bar hB (by omega)
  replace hVa := VW_step hVa (fun k (hk : ba ≤ k ∧ k < g13) hlt => hB.block k hlt (by omega))
  replace hVb := VW_step hVb (fun k (hk : bb ≤ k) hlt => hB.block k hlt (by omega))
  replace HB := HB.trans (hB.below (by omega) HB.size)
  clear hB
  obtain ⟨bw, hbw⟩ : ∃ b, b = w12.heap.size := ⟨_, rfl⟩
  have n15w : g15 < bw := by rw [hbw]; exact K15.lt
  have x0 : w12.cell? ⟨g3, 0, none⟩ = some (.int .i64 v) := K3.cell 0
  have x1 : w12.cell? ⟨g3, 1, none⟩ = some (.slice A l.length c) := K3.cell 1
  have u0 : w12.cell? ⟨g4, 0, none⟩ = some (.int .i64 dv) := K4.cell 0
  have u1 : w12.cell? ⟨g4, 1, none⟩ = some (.slice A1 l1.length c1) := K4.cell 1
  have u2 : w12.cell? ⟨g4, 2, none⟩ = some (.slice A2 l2.length c2) := K4.cell 2
  go_wp2_with fail
  clear x0 x1 u0 u1 u2
  have hap := refapply_law v A c l dv A1 A2 c1 c2 l1 l2 w12 (Kd.C_below hL.out HB) hc (Kd.C_below hL1.out HB) hc1 (Kd.C_below hL2.out HB) hc2 hdv
  rw [HQ.out, ← hbw] at hap
  refine hap.mono ?_
  clear hap
  rintro e w13 ⟨vw, rfl, hVw, hb⟩
  rw [hbw] at hb
  have hws : bw ≤ w13.heap.size := by rw [hbw]; exact hb.size
  clear hbw
  clear K4
  replace K3 := K3.below hb K3.lt
  replace K13 := K13.below hb K13.lt
  replace K15 := K15.below hb K15.lt
  replace hVa := VW_below hVa hb
  replace hVb := VW_below hVb hb
  replace HB := HB.trans (hb.mono HB.size)
  clear hb
  obtain ⟨Aw, cw, rfl⟩ := Kd.V_slice hVw
  obtain ⟨g20, hg20⟩ : ∃ g, g = w13.heap.size := ⟨_, rfl⟩
  have n1520 : g15 < g20 := by rw [hg20]; exact K15.lt
  rw [← hg20] at hws
  have x0 : ∀ o, (w13.alloc o).cell? ⟨g13, 0, none⟩ = some (.int .i64 Q.1) := fun o => (K13.alloc o).cell 0
  have x1 : ∀ o, (w13.alloc o).cell? ⟨g13, 1, none⟩ = some (.slice Aa Q.2.1.length ca) := fun o => (K13.alloc o).cell 1
  go_wp2_with fail
  clear x0 x1
  obtain ⟨W13, hW13⟩ : ∃ W13, W13 = w13.alloc (.cells #[.int .i64 Q.1, .slice Aw Q.2.1.length cw] 24) := ⟨_, rfl⟩
  replace K3 : Blk W13 g3 24 #[.int .i64 v, .slice A l.length c] := by rw [hW13]; exact K3.alloc _
  replace K13 : Blk W13 g13 24 #[.int .i64 Q.1, .slice Aa Q.2.1.length ca] := by rw [hW13]; exact K13.alloc _
  replace K15 : Blk W13 g15 24 #[.int .i64 Q.1, .slice Ab Q.2.1.length cb] := by rw [hW13]; exact K15.alloc _
  have K20 : Blk W13 g20 24 #[.int .i64 Q.1, .slice Aw Q.2.1.length cw] := by rw [hW13, hg20]; exact Blk.new w13 24 _
  replace hVa := VW_alloc hVa (.cells #[.int .i64 Q.1, .slice Aw Q.2.1.length cw] 24)
  rw [← hW13] at hVa
  replace hVb := VW_alloc hVb (.cells #[.int .i64 Q.1, .slice Aw Q.2.1.length cw] 24)
  rw [← hW13] at hVb
  replace hVw := Kd.V_alloc hVw (.cells #[.int .i64 Q.1, .slice Aw Q.2.1.length cw] 24)
  rw [← hW13] at hVw
  replace HB : Below w.heap.size w W13 := by rw [hW13]; exact below_alloc HB _
  rw [← hW13, ← hg20]
  clear hW13 hg20
  refine (samelist_law Q.1 Aa Aw ca cw Q.2.1 W13 (VW_reads' hVa).2.2 (VW_reads' hVa).2.1 (Kd.V_reads' hVw).2.2 (Kd.V_reads' hVw).2.1).mono ?_
  rintro e w14 ⟨rfl, hb⟩
  replace K3 := K3.below hb K3.lt
  replace K13 := K13.below hb K13.lt
  replace K15 := K15.below hb K15.lt
  replace K20 := K20.below hb K20.lt
  replace hVa := VW_below hVa hb
  replace hVb := VW_below hVb hb
  replace hVw := Kd.V_below hVw hb
  replace HB := HB.trans (hb.mono HB.size)
  clear hb
  have x0 : w14.cell? ⟨g13, 1, none⟩ = some (.slice Aa Q.2.1.length ca) := K13.cell 1
  go_wp2_with fail
  clear x0
  refine (spoil_any gl hVa (by omega)).mono ?_
  rintro e w15 ⟨rfl, kk, hk, hB⟩
  have hk' : kk = gl ∨ (ba ≤ kk ∧ kk < g13) := hk
  clear hk
  clear hVa
  have nk : gl ≤ kk ∧ kk ≠ g9 ∧ kk ≠ g13 ∧ kk < bb := by rcases hk' with h | h <;> omega
  clear hk'
  obtain ⟨nk1, nk2, nk3, nk4⟩ := nk
  replace K3 := K3.bar hB (by omega)
  clear K13
  replace K15 := K15.bar hB (by omega)
  replace K20 := K20.bar hB (by omega)
  replace hVb := VW_step hVb (fun k (hk : bb ≤ k) hlt => hB.block k hlt (by omega))
  replace hVw := Kd.V_step hVw (fun k (hk : bw ≤ k) hlt => hB.block k hlt (by omega))
  replace HB := HB.trans (hB.below (by omega) HB.size)
  clear hB
  have x0 : w15.cell? ⟨g15, 0, none⟩ = some (.int .i64 Q.1) := K15.cell 0
  have x1 : w15.cell? ⟨g15, 1, none⟩ = some (.slice Ab Q.2.1.length cb) := K15.cell 1
  have u0 : w15.cell? ⟨g20, 0, none⟩ = some (.int .i64 Q.1) := K20.cell 0
  have u1 : w15.cell? ⟨g20, 1, none⟩ = some (.slice Aw Q.2.1.length cw) := K20.cell 1
  go_wp2_with fail
  clear x0 x1 u0 u1
  refine (samelist_law Q.1 Ab Aw cb cw Q.2.1 w15 (VW_reads' hVb).2.2 (VW_reads' hVb).2.1 (Kd.V_reads' hVw).2.2 (Kd.V_reads' hVw).2.1).mono ?_
  rintro e w16 ⟨rfl, hb⟩
  clear K15
  clear K20
  clear hVb hVw
  replace K3 := K3.below hb K3.lt
  replace HB := HB.trans (hb.mono HB.size)
  clear hb
  have x0 : w16.cell? ⟨g3, 0, none⟩ = some (.int .i64 v) := K3.cell 0
  have x1 : w16.cell? ⟨g3, 1, none⟩ = some (.slice A l.length c) := K3.cell 1
  go_wp2_with fail
  clear x0 x1
  refine (refright_law v A c l w16 (Kd.C_below hL.out HB) hc).mono ?_
  rintro e w17 ⟨rfl, hb⟩
  replace K3 := K3.below hb K3.lt
  replace HB := HB.trans (hb.mono HB.size)
  clear hb
  have e1 : (rightS v l == rightS v l) = true := beq_self_eq_true _
  have x0 : ∀ n, (w17.drewN n).cell? ⟨g3, 0, none⟩ = some (.int .i64 v) := fun n => (K3.drewN n).cell 0
  have x1 : ∀ n, (w17.drewN n).cell? ⟨g3, 1, none⟩ = some (.slice A l.length c) := fun n => (K3.drewN n).cell 1
  go_wp2_with fail
  refine (reftoken_law s _).mono ?_
  rintro e _ ⟨rfl, n, rfl⟩
  have e2 : (tokB s == tokB s) = true := beq_self_eq_true _
  have e3 : (inS l s == inS l s) = true := beq_self_eq_true _
  have e4 : (Q.2.2 == Q.2.2) = true := beq_self_eq_true _
  go_wp2_with fail
  refine (refhas_law v A c l s _ (Kd.C_below hL.out (pw_below_drewN HB n)) hc).mono ?_
  rintro e w18 ⟨rfl, hb⟩
  replace HB := (pw_below_drewN HB n).trans (hb.mono (pw_below_drewN HB n).size)
  go_wp2
  go_ret
  exact ⟨by simp, HB⟩
  --DONE
end Go.Proofs.Ytodonkgheffibaa.Hand
