/- fareboxlaw13.RiskDeltas by hand: the walk (printed by wip/risk/gen/genD.py of this session). -/
import Derived.Test.YtodonkgheffibaaHandT
namespace Go.Proofs.Ytodonkgheffibaa.Hand
open Go.RowKit Go.Proofs.YtodonkgheffibaaW.PrintWords Go.Proofs.YtodonkgheffibaaW.PrintMore
open Go.Proofs.Ytodonkgheffibaa Go.Proofs.Ytodonkgheffibaa.PA Go.Proofs.Ytodonkgheffibaa.PB Go.Proofs.Ytodonkgheffibaa.PC Go.Proofs.Ytodonkgheffibaa.PJ

def DeltasPost (w : World) (e : Ending) (w' : World) : Prop := e = .returned (.bool true) ∧ Below w.heap.size w w'
set_option maxHeartbeats 8000000 in
theorem deltas_any (v : Int) (A : Option Addr) (c : Nat) (l : List ByteArray) (At : Option Addr) (ct : Nat) (tk : List ByteArray) (pv : Int) (P1 P2 : Option Addr) (pc1 pc2 : Nat) (p1 p2 : List ByteArray) (qv : Int) (Q1 Q2 : Option Addr) (qc1 qc2 : Nat) (q1 q2 : List ByteArray) (w : World)
    (hr : Kd.C Kd.string w A l.length l) (hc : l.length ≤ c) (ht : Kd.C Kd.string w At tk.length tk) (hct : tk.length ≤ ct)
    (hP1 : Kd.C Kd.string w P1 p1.length p1) (hpc1 : p1.length ≤ pc1) (hP2 : Kd.C Kd.string w P2 p2.length p2) (hpc2 : p2.length ≤ pc2)
    (hQ1 : Kd.C Kd.string w Q1 q1.length q1) (hqc1 : q1.length ≤ qc1) (hQ2 : Kd.C Kd.string w Q2 q2.length q2) (hqc2 : q2.length ≤ qc2)
    (hv : v ≤ 9223372036854775807) (b1 : tk.length * 16 ≤ 140737488351232) :
    Calls Try.prog 6 #[.agg #[.int .i64 v, .slice A l.length c], .slice At tk.length ct, .agg #[.int .i64 pv, .slice P1 p1.length pc1, .slice P2 p2.length pc2], .agg #[.int .i64 qv, .slice Q1 q1.length qc1, .slice Q2 q2.length qc2]] w (DeltasPost w) := by
  have hL := Lib.hid hr
  have hT := Lib.hid ht
  have hP1_ := Lib.hid hP1
  have hP2_ := Lib.hid hP2
  have hQ1_ := Lib.hid hQ1
  have hQ2_ := Lib.hid hQ2
  clear hr ht hP1 hP2 hQ1 hQ2
  obtain ⟨W1, hW1⟩ : ∃ W1, W1 = ((w.alloc (.cells #[.int .i64 v, .slice A l.length c] 24)).alloc (.cells #[.int .i64 pv, .slice P1 p1.length pc1, .slice P2 p2.length pc2] 26)).alloc (.cells #[.int .i64 qv, .slice Q1 q1.length qc1, .slice Q2 q2.length qc2] 26) := ⟨_, rfl⟩
  obtain ⟨g4, hg4⟩ : ∃ g, g = w.heap.size := ⟨_, rfl⟩
  obtain ⟨g6, hg6⟩ : ∃ g, g = w.heap.size + 1 := ⟨_, rfl⟩
  obtain ⟨g7, hg7⟩ : ∃ g, g = w.heap.size + 1 + 1 := ⟨_, rfl⟩
  have K4 : Blk W1 g4 24 #[.int .i64 v, .slice A l.length c] := by rw [hW1, hg4]; exact ((Blk.new w 24 _).alloc _).alloc _
  have K6 : Blk W1 g6 26 #[.int .i64 pv, .slice P1 p1.length pc1, .slice P2 p2.length pc2] := by rw [hW1, hg6]; exact (Blk.new_ _ _ _ (by simp)).alloc _
  have K7 : Blk W1 g7 26 #[.int .i64 qv, .slice Q1 q1.length qc1, .slice Q2 q2.length qc2] := by rw [hW1, hg7]; exact Blk.new_ _ _ _ (by simp)
  have HB : Below w.heap.size w W1 := by rw [hW1]; exact below_alloc (below_alloc (below_alloc (Below.refl _ _) _) _) _
  have n46 : g4 < g6 := by omega
  have n67 : g6 < g7 := by omega
  have n4 : w.heap.size ≤ g4 := by omega
  have HW1 := Lib.hid hW1
  clear hW1
  go_enter Try.func6, Try.ntmps6
  go_wp2_with fail
  rw [← HW1.out, ← hg7, ← hg6, ← hg4]
  clear HW1 hg7 hg6 hg4
  refine (awake_any W1).mono ?_
  rintro e w2 ⟨rfl, hb⟩
  replace K4 := K4.below hb K4.lt
  replace K6 := K6.below hb K6.lt
  replace K7 := K7.below hb K7.lt
  replace HB := HB.trans (hb.mono HB.size)
  clear hb
  go_wp2_with fail
  refine (lent_any At ct tk w2 (Kd.C_below hT.out HB) (by omega)).mono ?_
  rintro e w3 ⟨gl, nl, rfl, KL, hb⟩
  have n7l : g7 < gl := Nat.lt_of_lt_of_le K7.lt nl
  clear nl
  replace K4 := K4.below hb K4.lt
  replace K6 := K6.below hb K6.lt
  replace K7 := K7.below hb K7.lt
  replace HB := HB.trans (hb.mono HB.size)
  clear hb
  obtain ⟨Q, hQ⟩ : ∃ Q, diffS v l tk = Q := ⟨_, rfl⟩
  have hfew := diff_few v l tk
  rw [hQ] at hfew
  obtain ⟨hf1, hf2⟩ := hfew
  have HQ := Lib.hid hQ
  clear hQ
  have x0 : w3.cell? ⟨g4, 0, none⟩ = some (.int .i64 v) := K4.cell 0
  have x1 : w3.cell? ⟨g4, 1, none⟩ = some (.slice A l.length c) := K4.cell 1
  go_wp2_with fail
  clear x0 x1
  obtain ⟨ba, hba⟩ : ∃ b, b = w3.heap.size := ⟨_, rfl⟩
  have nba : gl < ba := by rw [hba]; exact KL.lt
  have hap := diff_law w3 v A (some ⟨gl, 0, none⟩) c (tk.length + 1) l tk (Kd.C_below hL.out HB) hc (C_head KL (by omega)) (Nat.le_succ _) hv (by omega)
  rw [HQ.out] at hap
  refine hap.mono ?_
  clear hap
  rintro e w4 ⟨Aa1, ca1, Aa2, ca2, rfl, Va1, Va2, Ra1, Ra2, hb⟩
  have hsa : ba ≤ w4.heap.size := by rw [hba]; exact hb.size
  rw [← hba] at Va1 Va2 Ra1 Ra2
  replace K4 := K4.below hb K4.lt
  replace K6 := K6.below hb K6.lt
  replace K7 := K7.below hb K7.lt
  replace KL := KL.below hb KL.lt
  replace HB := HB.trans (hb.mono HB.size)
  clear hb
  obtain ⟨g11, hg11⟩ : ∃ g, g = w4.heap.size := ⟨_, rfl⟩
  rw [← hg11] at hsa
  rw [← hg11] at Ra1 Ra2
  clear hba
  have x0 : ∀ o, (w4.alloc o).cell? ⟨g4, 0, none⟩ = some (.int .i64 v) := fun o => (K4.alloc o).cell 0
  have x1 : ∀ o, (w4.alloc o).cell? ⟨g4, 1, none⟩ = some (.slice A l.length c) := fun o => (K4.alloc o).cell 1
  go_wp2_with fail
  clear x0 x1
  obtain ⟨W4, hW4⟩ : ∃ W, W = w4.alloc (.cells #[.int .i64 Q.1, .slice Aa1 Q.2.1.length ca1, .slice Aa2 Q.2.2.1.length ca2] 26) := ⟨_, rfl⟩
  replace K4 : Blk W4 g4 24 #[.int .i64 v, .slice A l.length c] := by rw [hW4]; exact K4.alloc _
  replace K6 : Blk W4 g6 26 #[.int .i64 pv, .slice P1 p1.length pc1, .slice P2 p2.length pc2] := by rw [hW4]; exact K6.alloc _
  replace K7 : Blk W4 g7 26 #[.int .i64 qv, .slice Q1 q1.length qc1, .slice Q2 q2.length qc2] := by rw [hW4]; exact K7.alloc _
  replace KL : Blk W4 gl 9 (strsV (tk ++ [mark])).toArray := by rw [hW4]; exact KL.alloc _
  have K11 : Blk W4 g11 26 #[.int .i64 Q.1, .slice Aa1 Q.2.1.length ca1, .slice Aa2 Q.2.2.1.length ca2] := by rw [hW4, hg11]; exact Blk.new w4 26 _
  replace Va1 := Kd.V_alloc Va1 (.cells #[.int .i64 Q.1, .slice Aa1 Q.2.1.length ca1, .slice Aa2 Q.2.2.1.length ca2] 26)
  rw [← hW4] at Va1
  replace Va2 := Kd.V_alloc Va2 (.cells #[.int .i64 Q.1, .slice Aa1 Q.2.1.length ca1, .slice Aa2 Q.2.2.1.length ca2] 26)
  rw [← hW4] at Va2
  replace Ra1 := Ra1.alloc (.cells #[.int .i64 Q.1, .slice Aa1 Q.2.1.length ca1, .slice Aa2 Q.2.2.1.length ca2] 26)
  rw [← hW4] at Ra1
  replace Ra2 := Ra2.alloc (.cells #[.int .i64 Q.1, .slice Aa1 Q.2.1.length ca1, .slice Aa2 Q.2.2.1.length ca2] 26)
  rw [← hW4] at Ra2
  replace HB : Below w.heap.size w W4 := by rw [hW4]; exact below_alloc HB _
  rw [← hW4, ← hg11]
  clear hW4 hg11
  obtain ⟨bb, hbb⟩ : ∃ b, b = W4.heap.size := ⟨_, rfl⟩
  have nbb : g11 < bb := by rw [hbb]; exact K11.lt
  have hap := diff_law W4 v A (some ⟨gl, 0, none⟩) c (tk.length + 1) l tk (Kd.C_below hL.out HB) hc (C_head KL (by omega)) (Nat.le_succ _) hv (by omega)
  rw [HQ.out] at hap
  refine hap.mono ?_
  clear hap
  rintro e w5 ⟨Ab1, cb1, Ab2, cb2, rfl, Vb1, Vb2, Rb1, Rb2, hb⟩
  have hsb : bb ≤ w5.heap.size := by rw [hbb]; exact hb.size
  rw [← hbb] at Vb1 Vb2 Rb1 Rb2
  clear Rb1 Rb2
  replace K4 := K4.below hb K4.lt
  replace K6 := K6.below hb K6.lt
  replace K7 := K7.below hb K7.lt
  replace KL := KL.below hb KL.lt
  replace K11 := K11.below hb K11.lt
  replace Va1 := Kd.V_below Va1 hb
  replace Va2 := Kd.V_below Va2 hb
  replace Ra1 := Ra1.below hb
  replace Ra2 := Ra2.below hb
  replace HB := HB.trans (hb.mono HB.size)
  clear hb
  obtain ⟨g13, hg13⟩ : ∃ g, g = w5.heap.size := ⟨_, rfl⟩
  rw [← hg13] at hsb
  clear hbb
  go_wp2_with fail
  obtain ⟨W5, hW5⟩ : ∃ W, W = w5.alloc (.cells #[.int .i64 Q.1, .slice Ab1 Q.2.1.length cb1, .slice Ab2 Q.2.2.1.length cb2] 26) := ⟨_, rfl⟩
  replace K4 : Blk W5 g4 24 #[.int .i64 v, .slice A l.length c] := by rw [hW5]; exact K4.alloc _
  replace K6 : Blk W5 g6 26 #[.int .i64 pv, .slice P1 p1.length pc1, .slice P2 p2.length pc2] := by rw [hW5]; exact K6.alloc _
  replace K7 : Blk W5 g7 26 #[.int .i64 qv, .slice Q1 q1.length qc1, .slice Q2 q2.length qc2] := by rw [hW5]; exact K7.alloc _
  replace KL : Blk W5 gl 9 (strsV (tk ++ [mark])).toArray := by rw [hW5]; exact KL.alloc _
  replace K11 : Blk W5 g11 26 #[.int .i64 Q.1, .slice Aa1 Q.2.1.length ca1, .slice Aa2 Q.2.2.1.length ca2] := by rw [hW5]; exact K11.alloc _
  have K13 : Blk W5 g13 26 #[.int .i64 Q.1, .slice Ab1 Q.2.1.length cb1, .slice Ab2 Q.2.2.1.length cb2] := by rw [hW5, hg13]; exact Blk.new w5 26 _
  replace Va1 := Kd.V_alloc Va1 (.cells #[.int .i64 Q.1, .slice Ab1 Q.2.1.length cb1, .slice Ab2 Q.2.2.1.length cb2] 26)
  rw [← hW5] at Va1
  replace Va2 := Kd.V_alloc Va2 (.cells #[.int .i64 Q.1, .slice Ab1 Q.2.1.length cb1, .slice Ab2 Q.2.2.1.length cb2] 26)
  rw [← hW5] at Va2
  replace Vb1 := Kd.V_alloc Vb1 (.cells #[.int .i64 Q.1, .slice Ab1 Q.2.1.length cb1, .slice Ab2 Q.2.2.1.length cb2] 26)
  rw [← hW5] at Vb1
  replace Vb2 := Kd.V_alloc Vb2 (.cells #[.int .i64 Q.1, .slice Ab1 Q.2.1.length cb1, .slice Ab2 Q.2.2.1.length cb2] 26)
  rw [← hW5] at Vb2
  replace Ra1 := Ra1.alloc (.cells #[.int .i64 Q.1, .slice Ab1 Q.2.1.length cb1, .slice Ab2 Q.2.2.1.length cb2] 26)
  rw [← hW5] at Ra1
  replace Ra2 := Ra2.alloc (.cells #[.int .i64 Q.1, .slice Ab1 Q.2.1.length cb1, .slice Ab2 Q.2.2.1.length cb2] 26)
  rw [← hW5] at Ra2
  replace HB : Below w.heap.size w W5 := by rw [hW5]; exact below_alloc HB _
  rw [← hW5, ← hg13]
  clear hW5 hg13
  refine (kept_any gl At ct tk W5 (Kd.C_below hT.out HB) hct KL (by omega)).mono ?_
  rintro e w6 ⟨rfl, hB⟩
  replace K4 := K4.bar hB (by omega)
  replace K6 := K6.bar hB (by omega)
  replace K7 := K7.bar hB (by omega)
  clear KL
  replace K11 := K11.bar hB (by omega)
  replace K13 := K13.bar hB (by omega)
  replace Va1 := Kd.V_step Va1 (fun k (hk : ba ≤ k) hlt => hB.block k hlt (by omega))
  replace Va2 := Kd.V_step Va2 (fun k (hk : ba ≤ k) hlt => hB.block k hlt (by omega))
  replace Vb1 := Kd.V_step Vb1 (fun k (hk : bb ≤ k) hlt => hB.block k hlt (by omega))
  replace Vb2 := Kd.V_step Vb2 (fun k (hk : bb ≤ k) hlt => hB.block k hlt (by omega))
  replace Ra1 := Ra1.bar hB
  replace Ra2 := Ra2.bar hB
  replace HB := HB.trans (hB.below (by omega) HB.size)
  clear hB
  have x0 : w6.cell? ⟨g4, 0, none⟩ = some (.int .i64 v) := K4.cell 0
  have x1 : w6.cell? ⟨g4, 1, none⟩ = some (.slice A l.length c) := K4.cell 1
  go_wp2_with fail
  clear x0 x1
  obtain ⟨bw, hbw⟩ : ∃ b, b = w6.heap.size := ⟨_, rfl⟩
  have nbw : g13 < bw := by rw [hbw]; exact K13.lt
  have hap := refdiff_law w6 v A At c ct l tk (Kd.C_below hL.out HB) hc (Kd.C_below hT.out HB) hct hv
  rw [HQ.out] at hap
  refine hap.mono ?_
  clear hap
  rintro e w7 ⟨Aw1, cw1, Aw2, cw2, rfl, Vw1, Vw2, Rw1, Rw2, hb⟩
  have hsw : bw ≤ w7.heap.size := by rw [hbw]; exact hb.size
  rw [← hbw] at Vw1 Vw2 Rw1 Rw2
  clear Rw1 Rw2
  replace K4 := K4.below hb K4.lt
  replace K6 := K6.below hb K6.lt
  replace K7 := K7.below hb K7.lt
  replace K11 := K11.below hb K11.lt
  replace K13 := K13.below hb K13.lt
  replace Va1 := Kd.V_below Va1 hb
  replace Va2 := Kd.V_below Va2 hb
  replace Vb1 := Kd.V_below Vb1 hb
  replace Vb2 := Kd.V_below Vb2 hb
  replace Ra1 := Ra1.below hb
  replace Ra2 := Ra2.below hb
  replace HB := HB.trans (hb.mono HB.size)
  clear hb
  obtain ⟨g16, hg16⟩ : ∃ g, g = w7.heap.size := ⟨_, rfl⟩
  rw [← hg16] at hsw
  clear hbw
  clear K4
  have x0 : ∀ o, (w7.alloc o).cell? ⟨g11, 0, none⟩ = some (.int .i64 Q.1) := fun o => (K11.alloc o).cell 0
  have x1 : ∀ o, (w7.alloc o).cell? ⟨g11, 1, none⟩ = some (.slice Aa1 Q.2.1.length ca1) := fun o => (K11.alloc o).cell 1
  have x2 : ∀ o, (w7.alloc o).cell? ⟨g11, 2, none⟩ = some (.slice Aa2 Q.2.2.1.length ca2) := fun o => (K11.alloc o).cell 2
  go_wp2_with fail
  clear x0 x1 x2
  obtain ⟨W7, hW7⟩ : ∃ W, W = w7.alloc (.cells #[.int .i64 Q.1, .slice Aw1 Q.2.1.length cw1, .slice Aw2 Q.2.2.1.length cw2] 26) := ⟨_, rfl⟩
  replace K6 : Blk W7 g6 26 #[.int .i64 pv, .slice P1 p1.length pc1, .slice P2 p2.length pc2] := by rw [hW7]; exact K6.alloc _
  replace K7 : Blk W7 g7 26 #[.int .i64 qv, .slice Q1 q1.length qc1, .slice Q2 q2.length qc2] := by rw [hW7]; exact K7.alloc _
  replace K11 : Blk W7 g11 26 #[.int .i64 Q.1, .slice Aa1 Q.2.1.length ca1, .slice Aa2 Q.2.2.1.length ca2] := by rw [hW7]; exact K11.alloc _
  replace K13 : Blk W7 g13 26 #[.int .i64 Q.1, .slice Ab1 Q.2.1.length cb1, .slice Ab2 Q.2.2.1.length cb2] := by rw [hW7]; exact K13.alloc _
  have K16 : Blk W7 g16 26 #[.int .i64 Q.1, .slice Aw1 Q.2.1.length cw1, .slice Aw2 Q.2.2.1.length cw2] := by rw [hW7, hg16]; exact Blk.new w7 26 _
  replace Va1 := Kd.V_alloc Va1 (.cells #[.int .i64 Q.1, .slice Aw1 Q.2.1.length cw1, .slice Aw2 Q.2.2.1.length cw2] 26)
  rw [← hW7] at Va1
  replace Va2 := Kd.V_alloc Va2 (.cells #[.int .i64 Q.1, .slice Aw1 Q.2.1.length cw1, .slice Aw2 Q.2.2.1.length cw2] 26)
  rw [← hW7] at Va2
  replace Vb1 := Kd.V_alloc Vb1 (.cells #[.int .i64 Q.1, .slice Aw1 Q.2.1.length cw1, .slice Aw2 Q.2.2.1.length cw2] 26)
  rw [← hW7] at Vb1
  replace Vb2 := Kd.V_alloc Vb2 (.cells #[.int .i64 Q.1, .slice Aw1 Q.2.1.length cw1, .slice Aw2 Q.2.2.1.length cw2] 26)
  rw [← hW7] at Vb2
  replace Vw1 := Kd.V_alloc Vw1 (.cells #[.int .i64 Q.1, .slice Aw1 Q.2.1.length cw1, .slice Aw2 Q.2.2.1.length cw2] 26)
  rw [← hW7] at Vw1
  replace Vw2 := Kd.V_alloc Vw2 (.cells #[.int .i64 Q.1, .slice Aw1 Q.2.1.length cw1, .slice Aw2 Q.2.2.1.length cw2] 26)
  rw [← hW7] at Vw2
  replace Ra1 := Ra1.alloc (.cells #[.int .i64 Q.1, .slice Aw1 Q.2.1.length cw1, .slice Aw2 Q.2.2.1.length cw2] 26)
  rw [← hW7] at Ra1
  replace Ra2 := Ra2.alloc (.cells #[.int .i64 Q.1, .slice Aw1 Q.2.1.length cw1, .slice Aw2 Q.2.2.1.length cw2] 26)
  rw [← hW7] at Ra2
  replace HB : Below w.heap.size w W7 := by rw [hW7]; exact below_alloc HB _
  rw [← hW7, ← hg16]
  clear hW7 hg16
  refine (samedelta_law W7 Q.1 Aa1 Aa2 ca1 ca2 Q.2.1 Q.2.2.1 (Kd.V_reads' Va1).2.2 (Kd.V_reads' Va1).2.1 (Kd.V_reads' Va2).2.2 (Kd.V_reads' Va2).2.1 Aw1 Aw2 cw1 cw2 (Kd.V_reads' Vw1).2.2 (Kd.V_reads' Vw1).2.1 (Kd.V_reads' Vw2).2.2 (Kd.V_reads' Vw2).2.1).mono ?_
  rintro e w8 ⟨rfl, hb⟩
  replace K6 := K6.below hb K6.lt
  replace K7 := K7.below hb K7.lt
  replace K11 := K11.below hb K11.lt
  replace K13 := K13.below hb K13.lt
  replace K16 := K16.below hb K16.lt
  replace Va1 := Kd.V_below Va1 hb
  replace Va2 := Kd.V_below Va2 hb
  replace Vb1 := Kd.V_below Vb1 hb
  replace Vb2 := Kd.V_below Vb2 hb
  replace Vw1 := Kd.V_below Vw1 hb
  replace Vw2 := Kd.V_below Vw2 hb
  replace Ra1 := Ra1.below hb
  replace Ra2 := Ra2.below hb
  replace HB := HB.trans (hb.mono HB.size)
  clear hb
  clear Va1
  clear Va2
  have x0 : w8.cell? ⟨g11, 1, none⟩ = some (.slice Aa1 Q.2.1.length ca1) := K11.cell 1
  go_wp2_with fail
  clear x0
  refine (spoil_law gl Ra1 (by omega)).mono ?_
  rintro e w9 ⟨rfl, k1, hk, hB⟩
  clear Ra1
  have nk1 : gl ≤ k1 ∧ (k1 = gl ∨ (ba ≤ k1 ∧ k1 < g11)) := by rcases hk with h | h <;> omega
  clear hk
  replace K6 := K6.bar hB (by omega)
  replace K7 := K7.bar hB (by omega)
  replace K11 := K11.bar hB (by omega)
  replace K13 := K13.bar hB (by omega)
  replace K16 := K16.bar hB (by omega)
  replace Vb1 := Kd.V_step Vb1 (fun k (hk : bb ≤ k) hlt => hB.block k hlt (by omega))
  replace Vb2 := Kd.V_step Vb2 (fun k (hk : bb ≤ k) hlt => hB.block k hlt (by omega))
  replace Vw1 := Kd.V_step Vw1 (fun k (hk : bw ≤ k) hlt => hB.block k hlt (by omega))
  replace Vw2 := Kd.V_step Vw2 (fun k (hk : bw ≤ k) hlt => hB.block k hlt (by omega))
  replace Ra2 := Ra2.bar hB
  replace HB := HB.trans (hB.below (by omega) HB.size)
  clear hB
  have x0 : w9.cell? ⟨g11, 2, none⟩ = some (.slice Aa2 Q.2.2.1.length ca2) := K11.cell 2
  go_wp2_with fail
  clear x0
  refine (spoil_law gl Ra2 (by omega)).mono ?_
  rintro e w10 ⟨rfl, k2, hk, hB⟩
  clear Ra2
  have nk2 : gl ≤ k2 ∧ (k2 = gl ∨ (ba ≤ k2 ∧ k2 < g11)) := by rcases hk with h | h <;> omega
  clear hk
  replace K6 := K6.bar hB (by omega)
  replace K7 := K7.bar hB (by omega)
  replace K11 := K11.bar hB (by omega)
  replace K13 := K13.bar hB (by omega)
  replace K16 := K16.bar hB (by omega)
  replace Vb1 := Kd.V_step Vb1 (fun k (hk : bb ≤ k) hlt => hB.block k hlt (by omega))
  replace Vb2 := Kd.V_step Vb2 (fun k (hk : bb ≤ k) hlt => hB.block k hlt (by omega))
  replace Vw1 := Kd.V_step Vw1 (fun k (hk : bw ≤ k) hlt => hB.block k hlt (by omega))
  replace Vw2 := Kd.V_step Vw2 (fun k (hk : bw ≤ k) hlt => hB.block k hlt (by omega))
  replace HB := HB.trans (hB.below (by omega) HB.size)
  clear hB
  clear K11
  have x0 : w10.cell? ⟨g13, 0, none⟩ = some (.int .i64 Q.1) := K13.cell 0
  have x1 : w10.cell? ⟨g13, 1, none⟩ = some (.slice Ab1 Q.2.1.length cb1) := K13.cell 1
  have x2 : w10.cell? ⟨g13, 2, none⟩ = some (.slice Ab2 Q.2.2.1.length cb2) := K13.cell 2
  have x3 : w10.cell? ⟨g16, 0, none⟩ = some (.int .i64 Q.1) := K16.cell 0
  have x4 : w10.cell? ⟨g16, 1, none⟩ = some (.slice Aw1 Q.2.1.length cw1) := K16.cell 1
  have x5 : w10.cell? ⟨g16, 2, none⟩ = some (.slice Aw2 Q.2.2.1.length cw2) := K16.cell 2
  go_wp2_with fail
  clear x0 x1 x2 x3 x4 x5
  refine (samedelta_law w10 Q.1 Ab1 Ab2 cb1 cb2 Q.2.1 Q.2.2.1 (Kd.V_reads' Vb1).2.2 (Kd.V_reads' Vb1).2.1 (Kd.V_reads' Vb2).2.2 (Kd.V_reads' Vb2).2.1 Aw1 Aw2 cw1 cw2 (Kd.V_reads' Vw1).2.2 (Kd.V_reads' Vw1).2.1 (Kd.V_reads' Vw2).2.2 (Kd.V_reads' Vw2).2.1).mono ?_
  rintro e w11 ⟨rfl, hb⟩
  replace K6 := K6.below hb K6.lt
  replace K7 := K7.below hb K7.lt
  replace K13 := K13.below hb K13.lt
  replace K16 := K16.below hb K16.lt
  replace Vb1 := Kd.V_below Vb1 hb
  replace Vb2 := Kd.V_below Vb2 hb
  replace Vw1 := Kd.V_below Vw1 hb
  replace Vw2 := Kd.V_below Vw2 hb
  replace HB := HB.trans (hb.mono HB.size)
  clear hb
  clear K13
  clear Vb1
  clear Vb2
  clear Vw1
  clear Vw2
  obtain ⟨J, hJ⟩ : ∃ J, joinS pv p1 p2 qv q1 q2 = J := ⟨_, rfl⟩
  have hfew := join_few pv p1 p2 qv q1 q2
  rw [hJ] at hfew
  obtain ⟨hj1, hj2⟩ := hfew
  have HJ := Lib.hid hJ
  clear hJ
  have x0 : w11.cell? ⟨g6, 0, none⟩ = some (.int .i64 pv) := K6.cell 0
  have x1 : w11.cell? ⟨g6, 1, none⟩ = some (.slice P1 p1.length pc1) := K6.cell 1
  have x2 : w11.cell? ⟨g6, 2, none⟩ = some (.slice P2 p2.length pc2) := K6.cell 2
  have x3 : w11.cell? ⟨g7, 0, none⟩ = some (.int .i64 qv) := K7.cell 0
  have x4 : w11.cell? ⟨g7, 1, none⟩ = some (.slice Q1 q1.length qc1) := K7.cell 1
  have x5 : w11.cell? ⟨g7, 2, none⟩ = some (.slice Q2 q2.length qc2) := K7.cell 2
  go_wp2_with fail
  clear x0 x1 x2 x3 x4 x5
  obtain ⟨bx, hbx⟩ : ∃ b, b = w11.heap.size := ⟨_, rfl⟩
  have nbx : g16 < bx := by rw [hbx]; exact K16.lt
  have hap := join_law w11 pv P1 P2 pc1 pc2 p1 p2 (Kd.C_below hP1_.out HB) hpc1 (Kd.C_below hP2_.out HB) hpc2 qv Q1 Q2 qc1 qc2 q1 q2 (Kd.C_below hQ1_.out HB) hqc1 (Kd.C_below hQ2_.out HB) hqc2
  rw [HJ.out] at hap
  refine hap.mono ?_
  clear hap
  rintro e w12 ⟨Ax1, cx1, Ax2, cx2, rfl, Vx1, Vx2, Rx1, Rx2, hb⟩
  have hsx : bx ≤ w12.heap.size := by rw [hbx]; exact hb.size
  rw [← hbx] at Vx1 Vx2 Rx1 Rx2
  replace K6 := K6.below hb K6.lt
  replace K7 := K7.below hb K7.lt
  replace K16 := K16.below hb K16.lt
  replace HB := HB.trans (hb.mono HB.size)
  clear hb
  obtain ⟨g20, hg20⟩ : ∃ g, g = w12.heap.size := ⟨_, rfl⟩
  rw [← hg20] at hsx
  rw [← hg20] at Rx1 Rx2
  clear hbx
  clear K16
  have x0 : ∀ o, (w12.alloc o).cell? ⟨g6, 0, none⟩ = some (.int .i64 pv) := fun o => (K6.alloc o).cell 0
  have x1 : ∀ o, (w12.alloc o).cell? ⟨g6, 1, none⟩ = some (.slice P1 p1.length pc1) := fun o => (K6.alloc o).cell 1
  have x2 : ∀ o, (w12.alloc o).cell? ⟨g6, 2, none⟩ = some (.slice P2 p2.length pc2) := fun o => (K6.alloc o).cell 2
  have x3 : ∀ o, (w12.alloc o).cell? ⟨g7, 0, none⟩ = some (.int .i64 qv) := fun o => (K7.alloc o).cell 0
  have x4 : ∀ o, (w12.alloc o).cell? ⟨g7, 1, none⟩ = some (.slice Q1 q1.length qc1) := fun o => (K7.alloc o).cell 1
  have x5 : ∀ o, (w12.alloc o).cell? ⟨g7, 2, none⟩ = some (.slice Q2 q2.length qc2) := fun o => (K7.alloc o).cell 2
  go_wp2_with fail
  clear x0 x1 x2 x3 x4 x5
  obtain ⟨W12, hW12⟩ : ∃ W, W = w12.alloc (.cells #[.int .i64 J.1, .slice Ax1 J.2.1.length cx1, .slice Ax2 J.2.2.1.length cx2] 26) := ⟨_, rfl⟩
  replace K6 : Blk W12 g6 26 #[.int .i64 pv, .slice P1 p1.length pc1, .slice P2 p2.length pc2] := by rw [hW12]; exact K6.alloc _
  replace K7 : Blk W12 g7 26 #[.int .i64 qv, .slice Q1 q1.length qc1, .slice Q2 q2.length qc2] := by rw [hW12]; exact K7.alloc _
  have K20 : Blk W12 g20 26 #[.int .i64 J.1, .slice Ax1 J.2.1.length cx1, .slice Ax2 J.2.2.1.length cx2] := by rw [hW12, hg20]; exact Blk.new w12 26 _
  replace Vx1 := Kd.V_alloc Vx1 (.cells #[.int .i64 J.1, .slice Ax1 J.2.1.length cx1, .slice Ax2 J.2.2.1.length cx2] 26)
  rw [← hW12] at Vx1
  replace Vx2 := Kd.V_alloc Vx2 (.cells #[.int .i64 J.1, .slice Ax1 J.2.1.length cx1, .slice Ax2 J.2.2.1.length cx2] 26)
  rw [← hW12] at Vx2
  replace Rx1 := Rx1.alloc (.cells #[.int .i64 J.1, .slice Ax1 J.2.1.length cx1, .slice Ax2 J.2.2.1.length cx2] 26)
  rw [← hW12] at Rx1
  replace Rx2 := Rx2.alloc (.cells #[.int .i64 J.1, .slice Ax1 J.2.1.length cx1, .slice Ax2 J.2.2.1.length cx2] 26)
  rw [← hW12] at Rx2
  replace HB : Below w.heap.size w W12 := by rw [hW12]; exact below_alloc HB _
  rw [← hW12, ← hg20]
  clear hW12 hg20
  obtain ⟨byy, hbyy⟩ : ∃ b, b = W12.heap.size := ⟨_, rfl⟩
  have nbyy : g20 < byy := by rw [hbyy]; exact K20.lt
  have hap := refjoin_law W12 pv P1 P2 pc1 pc2 p1 p2 (Kd.C_below hP1_.out HB) hpc1 (Kd.C_below hP2_.out HB) hpc2 qv Q1 Q2 qc1 qc2 q1 q2 (Kd.C_below hQ1_.out HB) hqc1 (Kd.C_below hQ2_.out HB) hqc2
  rw [HJ.out] at hap
  refine hap.mono ?_
  clear hap
  rintro e w13 ⟨Ayy1, cyy1, Ayy2, cyy2, rfl, Vyy1, Vyy2, Ryy1, Ryy2, hb⟩
  have hsyy : byy ≤ w13.heap.size := by rw [hbyy]; exact hb.size
  rw [← hbyy] at Vyy1 Vyy2 Ryy1 Ryy2
  clear Ryy1 Ryy2
  replace K6 := K6.below hb K6.lt
  replace K7 := K7.below hb K7.lt
  replace K20 := K20.below hb K20.lt
  replace Vx1 := Kd.V_below Vx1 hb
  replace Vx2 := Kd.V_below Vx2 hb
  replace Rx1 := Rx1.below hb
  replace Rx2 := Rx2.below hb
  replace HB := HB.trans (hb.mono HB.size)
  clear hb
  obtain ⟨g22, hg22⟩ : ∃ g, g = w13.heap.size := ⟨_, rfl⟩
  rw [← hg22] at hsyy
  clear hbyy
  have x0 : ∀ o, (w13.alloc o).cell? ⟨g20, 0, none⟩ = some (.int .i64 J.1) := fun o => (K20.alloc o).cell 0
  have x1 : ∀ o, (w13.alloc o).cell? ⟨g20, 1, none⟩ = some (.slice Ax1 J.2.1.length cx1) := fun o => (K20.alloc o).cell 1
  have x2 : ∀ o, (w13.alloc o).cell? ⟨g20, 2, none⟩ = some (.slice Ax2 J.2.2.1.length cx2) := fun o => (K20.alloc o).cell 2
  go_wp2_with fail
  clear x0 x1 x2
  obtain ⟨W13, hW13⟩ : ∃ W, W = w13.alloc (.cells #[.int .i64 J.1, .slice Ayy1 J.2.1.length cyy1, .slice Ayy2 J.2.2.1.length cyy2] 26) := ⟨_, rfl⟩
  replace K6 : Blk W13 g6 26 #[.int .i64 pv, .slice P1 p1.length pc1, .slice P2 p2.length pc2] := by rw [hW13]; exact K6.alloc _
  replace K7 : Blk W13 g7 26 #[.int .i64 qv, .slice Q1 q1.length qc1, .slice Q2 q2.length qc2] := by rw [hW13]; exact K7.alloc _
  replace K20 : Blk W13 g20 26 #[.int .i64 J.1, .slice Ax1 J.2.1.length cx1, .slice Ax2 J.2.2.1.length cx2] := by rw [hW13]; exact K20.alloc _
  have K22 : Blk W13 g22 26 #[.int .i64 J.1, .slice Ayy1 J.2.1.length cyy1, .slice Ayy2 J.2.2.1.length cyy2] := by rw [hW13, hg22]; exact Blk.new w13 26 _
  replace Vx1 := Kd.V_alloc Vx1 (.cells #[.int .i64 J.1, .slice Ayy1 J.2.1.length cyy1, .slice Ayy2 J.2.2.1.length cyy2] 26)
  rw [← hW13] at Vx1
  replace Vx2 := Kd.V_alloc Vx2 (.cells #[.int .i64 J.1, .slice Ayy1 J.2.1.length cyy1, .slice Ayy2 J.2.2.1.length cyy2] 26)
  rw [← hW13] at Vx2
  replace Vyy1 := Kd.V_alloc Vyy1 (.cells #[.int .i64 J.1, .slice Ayy1 J.2.1.length cyy1, .slice Ayy2 J.2.2.1.length cyy2] 26)
  rw [← hW13] at Vyy1
  replace Vyy2 := Kd.V_alloc Vyy2 (.cells #[.int .i64 J.1, .slice Ayy1 J.2.1.length cyy1, .slice Ayy2 J.2.2.1.length cyy2] 26)
  rw [← hW13] at Vyy2
  replace Rx1 := Rx1.alloc (.cells #[.int .i64 J.1, .slice Ayy1 J.2.1.length cyy1, .slice Ayy2 J.2.2.1.length cyy2] 26)
  rw [← hW13] at Rx1
  replace Rx2 := Rx2.alloc (.cells #[.int .i64 J.1, .slice Ayy1 J.2.1.length cyy1, .slice Ayy2 J.2.2.1.length cyy2] 26)
  rw [← hW13] at Rx2
  replace HB : Below w.heap.size w W13 := by rw [hW13]; exact below_alloc HB _
  rw [← hW13, ← hg22]
  clear hW13 hg22
  refine (samedelta_law W13 J.1 Ax1 Ax2 cx1 cx2 J.2.1 J.2.2.1 (Kd.V_reads' Vx1).2.2 (Kd.V_reads' Vx1).2.1 (Kd.V_reads' Vx2).2.2 (Kd.V_reads' Vx2).2.1 Ayy1 Ayy2 cyy1 cyy2 (Kd.V_reads' Vyy1).2.2 (Kd.V_reads' Vyy1).2.1 (Kd.V_reads' Vyy2).2.2 (Kd.V_reads' Vyy2).2.1).mono ?_
  rintro e w14 ⟨rfl, hb⟩
  replace K6 := K6.below hb K6.lt
  replace K7 := K7.below hb K7.lt
  replace K20 := K20.below hb K20.lt
  replace K22 := K22.below hb K22.lt
  replace Vx1 := Kd.V_below Vx1 hb
  replace Vx2 := Kd.V_below Vx2 hb
  replace Vyy1 := Kd.V_below Vyy1 hb
  replace Vyy2 := Kd.V_below Vyy2 hb
  replace Rx1 := Rx1.below hb
  replace Rx2 := Rx2.below hb
  replace HB := HB.trans (hb.mono HB.size)
  clear hb
  clear Vx1
  clear Vx2
  have x0 : w14.cell? ⟨g20, 1, none⟩ = some (.slice Ax1 J.2.1.length cx1) := K20.cell 1
  go_wp2_with fail
  clear x0
  refine (spoil_law gl Rx1 (by omega)).mono ?_
  rintro e w15 ⟨rfl, k3, hk, hB⟩
  clear Rx1
  have nk3 : gl ≤ k3 ∧ (k3 = gl ∨ (bx ≤ k3 ∧ k3 < g20)) := by rcases hk with h | h <;> omega
  clear hk
  replace K6 := K6.bar hB (by omega)
  replace K7 := K7.bar hB (by omega)
  replace K20 := K20.bar hB (by omega)
  replace K22 := K22.bar hB (by omega)
  replace Vyy1 := Kd.V_step Vyy1 (fun k (hk : byy ≤ k) hlt => hB.block k hlt (by omega))
  replace Vyy2 := Kd.V_step Vyy2 (fun k (hk : byy ≤ k) hlt => hB.block k hlt (by omega))
  replace Rx2 := Rx2.bar hB
  replace HB := HB.trans (hB.below (by omega) HB.size)
  clear hB
  have x0 : w15.cell? ⟨g20, 2, none⟩ = some (.slice Ax2 J.2.2.1.length cx2) := K20.cell 2
  go_wp2_with fail
  clear x0
  refine (spoil_law gl Rx2 (by omega)).mono ?_
  rintro e w16 ⟨rfl, k4, hk, hB⟩
  clear Rx2
  have nk4 : gl ≤ k4 ∧ (k4 = gl ∨ (bx ≤ k4 ∧ k4 < g20)) := by rcases hk with h | h <;> omega
  clear hk
  replace K6 := K6.bar hB (by omega)
  replace K7 := K7.bar hB (by omega)
  replace K20 := K20.bar hB (by omega)
  replace K22 := K22.bar hB (by omega)
  replace Vyy1 := Kd.V_step Vyy1 (fun k (hk : byy ≤ k) hlt => hB.block k hlt (by omega))
  replace Vyy2 := Kd.V_step Vyy2 (fun k (hk : byy ≤ k) hlt => hB.block k hlt (by omega))
  replace HB := HB.trans (hB.below (by omega) HB.size)
  clear hB
  clear K20
  have x0 : w16.cell? ⟨g6, 0, none⟩ = some (.int .i64 pv) := K6.cell 0
  have x1 : w16.cell? ⟨g6, 1, none⟩ = some (.slice P1 p1.length pc1) := K6.cell 1
  have x2 : w16.cell? ⟨g6, 2, none⟩ = some (.slice P2 p2.length pc2) := K6.cell 2
  have x3 : w16.cell? ⟨g7, 0, none⟩ = some (.int .i64 qv) := K7.cell 0
  have x4 : w16.cell? ⟨g7, 1, none⟩ = some (.slice Q1 q1.length qc1) := K7.cell 1
  have x5 : w16.cell? ⟨g7, 2, none⟩ = some (.slice Q2 q2.length qc2) := K7.cell 2
  go_wp2_with fail
  clear x0 x1 x2 x3 x4 x5
  obtain ⟨bz, hbz⟩ : ∃ b, b = w16.heap.size := ⟨_, rfl⟩
  have nbz : g22 < bz := by rw [hbz]; exact K22.lt
  have hap := join_law w16 pv P1 P2 pc1 pc2 p1 p2 (Kd.C_below hP1_.out HB) hpc1 (Kd.C_below hP2_.out HB) hpc2 qv Q1 Q2 qc1 qc2 q1 q2 (Kd.C_below hQ1_.out HB) hqc1 (Kd.C_below hQ2_.out HB) hqc2
  rw [HJ.out] at hap
  refine hap.mono ?_
  clear hap
  rintro e w17 ⟨Az1, cz1, Az2, cz2, rfl, Vz1, Vz2, Rz1, Rz2, hb⟩
  have hsz : bz ≤ w17.heap.size := by rw [hbz]; exact hb.size
  rw [← hbz] at Vz1 Vz2 Rz1 Rz2
  clear Rz1 Rz2
  replace K6 := K6.below hb K6.lt
  replace K7 := K7.below hb K7.lt
  replace K22 := K22.below hb K22.lt
  replace Vyy1 := Kd.V_below Vyy1 hb
  replace Vyy2 := Kd.V_below Vyy2 hb
  replace HB := HB.trans (hb.mono HB.size)
  clear hb
  obtain ⟨g25, hg25⟩ : ∃ g, g = w17.heap.size := ⟨_, rfl⟩
  rw [← hg25] at hsz
  clear hbz
  have x0 : ∀ o, (w17.alloc o).cell? ⟨g22, 0, none⟩ = some (.int .i64 J.1) := fun o => (K22.alloc o).cell 0
  have x1 : ∀ o, (w17.alloc o).cell? ⟨g22, 1, none⟩ = some (.slice Ayy1 J.2.1.length cyy1) := fun o => (K22.alloc o).cell 1
  have x2 : ∀ o, (w17.alloc o).cell? ⟨g22, 2, none⟩ = some (.slice Ayy2 J.2.2.1.length cyy2) := fun o => (K22.alloc o).cell 2
  go_wp2_with fail
  clear x0 x1 x2
  obtain ⟨W17, hW17⟩ : ∃ W, W = w17.alloc (.cells #[.int .i64 J.1, .slice Az1 J.2.1.length cz1, .slice Az2 J.2.2.1.length cz2] 26) := ⟨_, rfl⟩
  replace K6 : Blk W17 g6 26 #[.int .i64 pv, .slice P1 p1.length pc1, .slice P2 p2.length pc2] := by rw [hW17]; exact K6.alloc _
  replace K7 : Blk W17 g7 26 #[.int .i64 qv, .slice Q1 q1.length qc1, .slice Q2 q2.length qc2] := by rw [hW17]; exact K7.alloc _
  replace K22 : Blk W17 g22 26 #[.int .i64 J.1, .slice Ayy1 J.2.1.length cyy1, .slice Ayy2 J.2.2.1.length cyy2] := by rw [hW17]; exact K22.alloc _
  have K25 : Blk W17 g25 26 #[.int .i64 J.1, .slice Az1 J.2.1.length cz1, .slice Az2 J.2.2.1.length cz2] := by rw [hW17, hg25]; exact Blk.new w17 26 _
  replace Vyy1 := Kd.V_alloc Vyy1 (.cells #[.int .i64 J.1, .slice Az1 J.2.1.length cz1, .slice Az2 J.2.2.1.length cz2] 26)
  rw [← hW17] at Vyy1
  replace Vyy2 := Kd.V_alloc Vyy2 (.cells #[.int .i64 J.1, .slice Az1 J.2.1.length cz1, .slice Az2 J.2.2.1.length cz2] 26)
  rw [← hW17] at Vyy2
  replace Vz1 := Kd.V_alloc Vz1 (.cells #[.int .i64 J.1, .slice Az1 J.2.1.length cz1, .slice Az2 J.2.2.1.length cz2] 26)
  rw [← hW17] at Vz1
  replace Vz2 := Kd.V_alloc Vz2 (.cells #[.int .i64 J.1, .slice Az1 J.2.1.length cz1, .slice Az2 J.2.2.1.length cz2] 26)
  rw [← hW17] at Vz2
  replace HB : Below w.heap.size w W17 := by rw [hW17]; exact below_alloc HB _
  rw [← hW17, ← hg25]
  clear hW17 hg25
  refine (samedelta_law W17 J.1 Az1 Az2 cz1 cz2 J.2.1 J.2.2.1 (Kd.V_reads' Vz1).2.2 (Kd.V_reads' Vz1).2.1 (Kd.V_reads' Vz2).2.2 (Kd.V_reads' Vz2).2.1 Ayy1 Ayy2 cyy1 cyy2 (Kd.V_reads' Vyy1).2.2 (Kd.V_reads' Vyy1).2.1 (Kd.V_reads' Vyy2).2.2 (Kd.V_reads' Vyy2).2.1).mono ?_
  rintro e w18 ⟨rfl, hb⟩
  replace K6 := K6.below hb K6.lt
  replace K7 := K7.below hb K7.lt
  replace K22 := K22.below hb K22.lt
  replace K25 := K25.below hb K25.lt
  replace Vyy1 := Kd.V_below Vyy1 hb
  replace Vyy2 := Kd.V_below Vyy2 hb
  replace Vz1 := Kd.V_below Vz1 hb
  replace Vz2 := Kd.V_below Vz2 hb
  replace HB := HB.trans (hb.mono HB.size)
  clear hb
  have e1 : (Q.2.2.2 == Q.2.2.2) = true := beq_self_eq_true _
  have e2 : (J.2.2.2 == J.2.2.2) = true := beq_self_eq_true _
  go_wp2
  go_ret
  exact ⟨by simp, HB⟩
end Go.Proofs.Ytodonkgheffibaa.Hand
