/- The row of RiskDeltas: what a call is handed, opened; the walk's contract; the arguments read as before. Written by a program of this session (wip/tools/mkRow.py). -/
import Derived.Test.YtodonkgheffibaaRows
import Derived.Test.YtodonkgheffibaaHandD
import Derived.Test.YtodonkgheffibaaRowAid
import Derived.WalkKit
import Derived.ProofKit
import Derived.OpenShut
import Derived.ShutString
import Derived.ChangeOld
import Derived.Below
import Derived.Carry
import Derived.SizedLaws
namespace Go.Proofs.Ytodonkgheffibaa.riskDeltas
open Go.ChangeShapes Go.WideShapes Go.ChangeAt Go.RowKit 
open Go.ChangeMaps (open_string shut_string)
set_option linter.unusedVariables false
theorem own : ownKnob Try.prog.godebug = none := by kernel_rfl
theorem laidOut : laidOutB Try.prog = true := by kernel_rfl
set_option maxRecDepth 100000 in
theorem lifted (os : Os) (started : os.Started) (H : Type) (enc : TypeId × Value → H) :
    ReturnsInHanded {} Try.checked os 6 .any (Rows.riskDeltasSpec.pre6 enc Try.prog Try.f6 Rows.riskDeltasRow.domain false) (Rows.riskDeltasSpec.post enc Try.prog Try.f6 false true false false) := by
  refine returnsInHanded_of_change_sized (C := Try.checked) own started (by kernel_rfl) Try.func6
    (ChangeSpec.witness6 (enc := enc) (C := Try.checked) false ⟨#[], #[.agg #[.int .i64 0, .slice none 0 0], .slice none 0 0, .agg #[.int .i64 0, .slice none 0 0, .slice none 0 0], .agg #[.int .i64 0, .slice none 0 0, .slice none 0 0]], []⟩ 8 (by kernel_rfl) (by kernel_rfl) (by kernel_rfl) (by kernel_rfl)) ?_
  intro W base args ds gs before hval0 hW hcnd hsz0 _
  have hsz : (DataW.weightsEach Try.prog (Try.f6.params.toList ++ Rows.riskDeltasSpec.plain.varTypes Try.prog) (ds ++ gs)).all (· ≤ reachBytes) = true := hsz0
  have hval : ∀ (j : Nat) t v, Try.f6.params[j]? = some t → args[j]? = some v → Value.okWide Try.prog W .any base t v := hval0
  have hW' := hW
  obtain ⟨p, q, hA0, hV, rfl, hfz, hnd⟩ := hW
  have hA : DataW.TrodAll enc Try.prog W 0 (fun _ => true) true Try.f6.params.toList args.toList ds p := hA0
  rw [Try.params6] at hA hval hsz
  obtain ⟨v0, vs0, d0, ds0, p0, q0, hargs, rfl, rfl, h0, r0⟩ := trodAll_cons hA
  obtain ⟨v1, vs1, d1, ds1, p1, q1, rfl, rfl, rfl, h1, r1⟩ := trodAll_cons r0
  obtain ⟨v2, vs2, d2, ds2, p2, q2, rfl, rfl, rfl, h2, r2⟩ := trodAll_cons r1
  obtain ⟨v3, vs3, d3, ds3, p3, q3, rfl, rfl, rfl, h3, r3⟩ := trodAll_cons r2
  obtain ⟨rfl, rfl, rfl⟩ := trodAll_nil r3
  obtain rfl : args = #[v0, v1, v2, v3] := by cases args; simp_all
  obtain ⟨rfl, rfl⟩ := trodVars_none hV
  have k0 := h0
  have lt0 : ∀ x ∈ p0, x.block < W.heap.size := by obtain ⟨m, hm⟩ := k0; exact DataW.trod_lt m _ _ _ hm
  obtain ⟨u0_0, u0_1, y0_0, y0_1, fuel0, rfl, hd0, hp0, t0_0, t0_1⟩ := Go.Joins.open_agg2 Try.underlying24 (by kernel_rfl) (by kernel_rfl) (hval 0 24 v0 rfl rfl) h0
  have hfit0 := (RowAid.fits_param (j := 0) (t := 24) hsz rfl rfl)
  rw [hd0] at hfit0
  obtain ⟨a0_0, hq0_0, hy0_0, w0_0⟩ := DataW.trod_int Try.underlying3 t0_0
  simp only [List.cons.injEq, and_true] at hq0_0
  subst hq0_0
  obtain ⟨A0_1, c0_1, l0_1, hq0_1, hc0_1, hr0_1, hb0_1, hg0_1⟩ := RowAid.slice_reads Try.underlying22 (by kernel_rfl) (RowAid.elem_string Try.underlying9) t0_1 ((RowAid.fits_field Try.underlying24 hfit0 (j := 1) rfl rfl))
  simp only [List.cons.injEq, and_true] at hq0_1
  subst hq0_1
  have k1 := h1
  have lt1 : ∀ x ∈ p1, x.block < W.heap.size := by obtain ⟨m, hm⟩ := k1; exact DataW.trod_lt m _ _ _ hm
  obtain ⟨A1, len1, c1, rfl⟩ := okWide_slice Try.underlying22 (hval 1 22 v1 rfl rfl)
  obtain ⟨fuel1, t1⟩ := h1
  obtain ⟨A'1, c'1, l1, hq1, hc1, hr1, hb1, hg1⟩ := RowAid.slice_reads Try.underlying22 (by kernel_rfl) (RowAid.elem_string Try.underlying9) t1 ((RowAid.fits_param (j := 1) (t := 22) hsz rfl rfl))
  simp [Value.cells] at hq1
  obtain ⟨rfl, rfl, rfl⟩ := hq1
  have k2 := h2
  have lt2 : ∀ x ∈ p2, x.block < W.heap.size := by obtain ⟨m, hm⟩ := k2; exact DataW.trod_lt m _ _ _ hm
  obtain ⟨u2_0, u2_1, u2_2, y2_0, y2_1, y2_2, fuel2, rfl, hd2, hp2, t2_0, t2_1, t2_2⟩ := Go.Joins.open_agg3 Try.underlying26 (by kernel_rfl) (by kernel_rfl) (hval 2 26 v2 rfl rfl) h2
  have hfit2 := (RowAid.fits_param (j := 2) (t := 26) hsz rfl rfl)
  rw [hd2] at hfit2
  obtain ⟨a2_0, hq2_0, hy2_0, w2_0⟩ := DataW.trod_int Try.underlying3 t2_0
  simp only [List.cons.injEq, and_true] at hq2_0
  subst hq2_0
  obtain ⟨A2_1, c2_1, l2_1, hq2_1, hc2_1, hr2_1, hb2_1, hg2_1⟩ := RowAid.slice_reads Try.underlying22 (by kernel_rfl) (RowAid.elem_string Try.underlying9) t2_1 ((RowAid.fits_field Try.underlying26 hfit2 (j := 1) rfl rfl))
  simp only [List.cons.injEq, and_true] at hq2_1
  subst hq2_1
  obtain ⟨A2_2, c2_2, l2_2, hq2_2, hc2_2, hr2_2, hb2_2, hg2_2⟩ := RowAid.slice_reads Try.underlying22 (by kernel_rfl) (RowAid.elem_string Try.underlying9) t2_2 ((RowAid.fits_field Try.underlying26 hfit2 (j := 2) rfl rfl))
  simp only [List.cons.injEq, and_true] at hq2_2
  subst hq2_2
  have k3 := h3
  have lt3 : ∀ x ∈ p3, x.block < W.heap.size := by obtain ⟨m, hm⟩ := k3; exact DataW.trod_lt m _ _ _ hm
  obtain ⟨u3_0, u3_1, u3_2, y3_0, y3_1, y3_2, fuel3, rfl, hd3, hp3, t3_0, t3_1, t3_2⟩ := Go.Joins.open_agg3 Try.underlying26 (by kernel_rfl) (by kernel_rfl) (hval 3 26 v3 rfl rfl) h3
  have hfit3 := (RowAid.fits_param (j := 3) (t := 26) hsz rfl rfl)
  rw [hd3] at hfit3
  obtain ⟨a3_0, hq3_0, hy3_0, w3_0⟩ := DataW.trod_int Try.underlying3 t3_0
  simp only [List.cons.injEq, and_true] at hq3_0
  subst hq3_0
  obtain ⟨A3_1, c3_1, l3_1, hq3_1, hc3_1, hr3_1, hb3_1, hg3_1⟩ := RowAid.slice_reads Try.underlying22 (by kernel_rfl) (RowAid.elem_string Try.underlying9) t3_1 ((RowAid.fits_field Try.underlying26 hfit3 (j := 1) rfl rfl))
  simp only [List.cons.injEq, and_true] at hq3_1
  subst hq3_1
  obtain ⟨A3_2, c3_2, l3_2, hq3_2, hc3_2, hr3_2, hb3_2, hg3_2⟩ := RowAid.slice_reads Try.underlying22 (by kernel_rfl) (RowAid.elem_string Try.underlying9) t3_2 ((RowAid.fits_field Try.underlying26 hfit3 (j := 2) rfl rfl))
  simp only [List.cons.injEq, and_true] at hq3_2
  subst hq3_2
  clear hA0 hval0 hsz0 hsz
  refine (Hand.deltas_any a0_0 A0_1 c0_1 l0_1 A1 c1 l1 a2_0 A2_1 A2_2 c2_1 c2_2 l2_1 l2_2 a3_0 A3_1 A3_2 c3_1 c3_2 l3_1 l3_2 W hr0_1 hc0_1 hr1 hc1 hr2_1 hc2_1 hr2_2 hc2_2 hr3_1 hc3_1 hr3_2 hc3_2 (RowAid.wf64 w0_0).2 hb1).mono fun e W' ⟨he, bel⟩ => ?_
  subst he
  exact ⟨_, rfl, _, _, _, [], _, [], hW', trodAll_mk1 (shut_bool Try.underlying4 _), (trodAll_cons_mk (Below.trod laidOut (by kernel_rfl) (of_decide_eq_true (by kernel_rfl)) k0 bel lt0) (trodAll_cons_mk (Below.trod laidOut (by kernel_rfl) (of_decide_eq_true (by kernel_rfl)) k1 bel lt1) (trodAll_cons_mk (Below.trod laidOut (by kernel_rfl) (of_decide_eq_true (by kernel_rfl)) k2 bel lt2) (trodAll_cons_mk (Below.trod laidOut (by kernel_rfl) (of_decide_eq_true (by kernel_rfl)) k3 bel lt3) trodAll_mk0)))), rfl, bel.frame _, fun h => by cases h⟩
theorem over : Rows.riskDeltasRow.holds Try.pinned (OpenSpec.ofChange Rows.riskDeltasSpec) :=
  OpenClaim.holds_of_wide 6 Try.f6 rfl rfl rfl rfl rfl rfl rfl ⟨rfl, rfl, rfl, rfl, rfl⟩ rfl rfl rfl rfl rfl (by kernel_rfl) Try.func6 (by kernel_rfl)
    (of_decide_eq_true (by kernel_rfl)) (by unfold Func.isWrapper; first | (rw [if_pos (by decide +kernel)]; kernel_rfl) | (rw [if_neg (by decide +kernel)]; exact ⟨rfl, rfl⟩))
    (fun os started H enc _ => lifted os started H enc)
theorem proved : Rows.RiskDeltasSaid := over
end Go.Proofs.Ytodonkgheffibaa.riskDeltas
namespace Go.Proofs.Ytodonkgheffibaa
/-- The row, under a short name, for the claim. -/
theorem riskDeltas_holds : Rows.RiskDeltasSaid := riskDeltas.proved
#print axioms riskDeltas_holds
end Go.Proofs.Ytodonkgheffibaa
