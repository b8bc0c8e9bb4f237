/- The row of RiskLists: what a call is handed, opened; the walk's contract; the arguments read as before. Written by a program of this session (wip/tools/mkRow.py). -/
import Derived.Test.YtodonkgheffibaaRows
import Derived.Test.YtodonkgheffibaaHandA
import Derived.Test.YtodonkgheffibaaRowAid
import Derived.WalkKit
import Derived.ProofKit
import Derived.OpenShut
import Derived.ShutString
import Derived.ChangeOld
import Derived.Below
import Derived.Carry
import Derived.SizedLaws
namespace Go.Proofs.Ytodonkgheffibaa.riskLists
open Go.ChangeShapes Go.WideShapes Go.ChangeAt Go.RowKit 
open Go.ChangeMaps (open_string shut_string)
set_option linter.unusedVariables false
theorem own : ownKnob Try.prog.godebug = none := by kernel_rfl
theorem laidOut : laidOutB Try.prog = true := by kernel_rfl
set_option maxRecDepth 100000 in
theorem lifted (os : Os) (started : os.Started) (H : Type) (enc : TypeId × Value → H) :
    ReturnsInHanded {} Try.checked os 3 .any (Rows.riskListsSpec.pre6 enc Try.prog Try.f3 Rows.riskListsRow.domain false) (Rows.riskListsSpec.post enc Try.prog Try.f3 false true false false) := by
  refine returnsInHanded_of_change_sized (C := Try.checked) own started (by kernel_rfl) Try.func3
    (ChangeSpec.witness6 (enc := enc) (C := Try.checked) false ⟨#[], #[.agg #[.int .i64 0, .slice none 0 0], .agg #[.int .i64 0, .slice none 0 0, .slice none 0 0], .string ByteArray.empty], []⟩ 8 (by kernel_rfl) (by kernel_rfl) (by kernel_rfl) (by kernel_rfl)) ?_
  intro W base args ds gs before hval0 hW hcnd hsz0 _
  have hsz : (DataW.weightsEach Try.prog (Try.f3.params.toList ++ Rows.riskListsSpec.plain.varTypes Try.prog) (ds ++ gs)).all (· ≤ reachBytes) = true := hsz0
  have hval : ∀ (j : Nat) t v, Try.f3.params[j]? = some t → args[j]? = some v → Value.okWide Try.prog W .any base t v := hval0
  have hW' := hW
  obtain ⟨p, q, hA0, hV, rfl, hfz, hnd⟩ := hW
  have hA : DataW.TrodAll enc Try.prog W 0 (fun _ => true) true Try.f3.params.toList args.toList ds p := hA0
  rw [Try.params3] at hA hval hsz
  obtain ⟨v0, vs0, d0, ds0, p0, q0, hargs, rfl, rfl, h0, r0⟩ := trodAll_cons hA
  obtain ⟨v1, vs1, d1, ds1, p1, q1, rfl, rfl, rfl, h1, r1⟩ := trodAll_cons r0
  obtain ⟨v2, vs2, d2, ds2, p2, q2, rfl, rfl, rfl, h2, r2⟩ := trodAll_cons r1
  obtain ⟨rfl, rfl, rfl⟩ := trodAll_nil r2
  obtain rfl : args = #[v0, v1, v2] := by cases args; simp_all
  obtain ⟨rfl, rfl⟩ := trodVars_none hV
  have k0 := h0
  have lt0 : ∀ x ∈ p0, x.block < W.heap.size := by obtain ⟨m, hm⟩ := k0; exact DataW.trod_lt m _ _ _ hm
  obtain ⟨u0_0, u0_1, y0_0, y0_1, fuel0, rfl, hd0, hp0, t0_0, t0_1⟩ := Go.Joins.open_agg2 Try.underlying24 (by kernel_rfl) (by kernel_rfl) (hval 0 24 v0 rfl rfl) h0
  have hfit0 := (RowAid.fits_param (j := 0) (t := 24) hsz rfl rfl)
  rw [hd0] at hfit0
  obtain ⟨a0_0, hq0_0, hy0_0, w0_0⟩ := DataW.trod_int Try.underlying3 t0_0
  simp only [List.cons.injEq, and_true] at hq0_0
  subst hq0_0
  obtain ⟨A0_1, c0_1, l0_1, hq0_1, hc0_1, hr0_1, hb0_1, hg0_1⟩ := RowAid.slice_reads Try.underlying22 (by kernel_rfl) (RowAid.elem_string Try.underlying9) t0_1 ((RowAid.fits_field Try.underlying24 hfit0 (j := 1) rfl rfl))
  simp only [List.cons.injEq, and_true] at hq0_1
  subst hq0_1
  have k1 := h1
  have lt1 : ∀ x ∈ p1, x.block < W.heap.size := by obtain ⟨m, hm⟩ := k1; exact DataW.trod_lt m _ _ _ hm
  obtain ⟨u1_0, u1_1, u1_2, y1_0, y1_1, y1_2, fuel1, rfl, hd1, hp1, t1_0, t1_1, t1_2⟩ := Go.Joins.open_agg3 Try.underlying26 (by kernel_rfl) (by kernel_rfl) (hval 1 26 v1 rfl rfl) h1
  have hfit1 := (RowAid.fits_param (j := 1) (t := 26) hsz rfl rfl)
  rw [hd1] at hfit1
  obtain ⟨a1_0, hq1_0, hy1_0, w1_0⟩ := DataW.trod_int Try.underlying3 t1_0
  simp only [List.cons.injEq, and_true] at hq1_0
  subst hq1_0
  obtain ⟨A1_1, c1_1, l1_1, hq1_1, hc1_1, hr1_1, hb1_1, hg1_1⟩ := RowAid.slice_reads Try.underlying22 (by kernel_rfl) (RowAid.elem_string Try.underlying9) t1_1 ((RowAid.fits_field Try.underlying26 hfit1 (j := 1) rfl rfl))
  simp only [List.cons.injEq, and_true] at hq1_1
  subst hq1_1
  obtain ⟨A1_2, c1_2, l1_2, hq1_2, hc1_2, hr1_2, hb1_2, hg1_2⟩ := RowAid.slice_reads Try.underlying22 (by kernel_rfl) (RowAid.elem_string Try.underlying9) t1_2 ((RowAid.fits_field Try.underlying26 hfit1 (j := 2) rfl rfl))
  simp only [List.cons.injEq, and_true] at hq1_2
  subst hq1_2
  have k2 := h2
  have lt2 : ∀ x ∈ p2, x.block < W.heap.size := by obtain ⟨m, hm⟩ := k2; exact DataW.trod_lt m _ _ _ hm
  obtain ⟨a2, rfl, rfl, rfl, y2⟩ := open_string Try.underlying9 (hval 2 9 v2 rfl rfl) h2
  have w2 : a2.size ≤ 140737488351232 := by
    have z := RowAid.fits_string (RowAid.fits_param (j := 2) (t := 9) hsz rfl rfl)
    rw [Array.length_toList] at z
    exact z
  clear hA0 hval0 hsz0 hsz
  refine (Hand.lists_any a0_0 A0_1 c0_1 l0_1 a1_0 A1_1 A1_2 c1_1 c1_2 l1_1 l1_2 a2 W hr0_1 hc0_1 hr1_1 hc1_1 hr1_2 hc1_2 (RowAid.wf64 w1_0).2 hb0_1 hb1_1 hb1_2).mono fun e W' ⟨he, bel⟩ => ?_
  subst he
  exact ⟨_, rfl, _, _, _, [], _, [], hW', trodAll_mk1 (shut_bool Try.underlying4 _), (trodAll_cons_mk (Below.trod laidOut (by kernel_rfl) (of_decide_eq_true (by kernel_rfl)) k0 bel lt0) (trodAll_cons_mk (Below.trod laidOut (by kernel_rfl) (of_decide_eq_true (by kernel_rfl)) k1 bel lt1) (trodAll_cons_mk (Below.trod laidOut (by kernel_rfl) (of_decide_eq_true (by kernel_rfl)) k2 bel lt2) trodAll_mk0))), rfl, bel.frame _, fun h => by cases h⟩
theorem over : Rows.riskListsRow.holds Try.pinned (OpenSpec.ofChange Rows.riskListsSpec) :=
  OpenClaim.holds_of_wide 3 Try.f3 rfl rfl rfl rfl rfl rfl rfl ⟨rfl, rfl, rfl, rfl, rfl⟩ rfl rfl rfl rfl rfl (by kernel_rfl) Try.func3 (by kernel_rfl)
    (of_decide_eq_true (by kernel_rfl)) (by unfold Func.isWrapper; first | (rw [if_pos (by decide +kernel)]; kernel_rfl) | (rw [if_neg (by decide +kernel)]; exact ⟨rfl, rfl⟩))
    (fun os started H enc _ => lifted os started H enc)
theorem proved : Rows.RiskListsSaid := over
end Go.Proofs.Ytodonkgheffibaa.riskLists
namespace Go.Proofs.Ytodonkgheffibaa
/-- The row, under a short name, for the claim. -/
theorem riskLists_holds : Rows.RiskListsSaid := riskLists.proved
#print axioms riskLists_holds
end Go.Proofs.Ytodonkgheffibaa
