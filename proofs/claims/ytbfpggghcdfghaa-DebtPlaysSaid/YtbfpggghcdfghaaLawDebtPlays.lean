/- The row of DebtPlays: what a call is handed, opened; the walk's contract; the arguments read as before. Written by a program of this session (wip/tools/mkRow.py). -/
import Derived.Test.YtbfpggghcdfghaaRows
import Derived.Test.YtbfpggghcdfghaaHandP
import Derived.Test.YtbfpggghcdfghaaRowAid
import Derived.WalkKit
import Derived.ProofKit
import Derived.OpenShut
import Derived.ShutString
import Derived.ChangeOld
import Derived.Below
import Derived.Carry
import Derived.SizedLaws
namespace Go.Proofs.Ytbfpggghcdfghaa.debtPlays
open Go.ChangeShapes Go.WideShapes Go.ChangeAt Go.RowKit 
open Go.ChangeMaps (open_string shut_string)
set_option linter.unusedVariables false
theorem own : ownKnob Try.prog.godebug = none := by kernel_rfl
theorem laidOut : laidOutB Try.prog = true := by kernel_rfl
set_option maxRecDepth 100000 in
theorem lifted (os : Os) (started : os.Started) (H : Type) (enc : TypeId × Value → H) :
    ReturnsInHanded {} Try.checked os 6 .any (Rows.debtPlaysSpec.pre6 enc Try.prog Try.f6 Rows.debtPlaysRow.domain false) (Rows.debtPlaysSpec.post enc Try.prog Try.f6 false true false false) := by
  refine returnsInHanded_of_change_sized (C := Try.checked) own started (by kernel_rfl) Try.func6
    (ChangeSpec.witness6 (enc := enc) (C := Try.checked) false ⟨#[], #[.slice none 0 0, .slice none 0 0], []⟩ 8 (by kernel_rfl) (by kernel_rfl) (by kernel_rfl) (by kernel_rfl)) ?_
  intro W base args ds gs before hval0 hW hcnd hsz0 _
  have hsz : (DataW.weightsEach Try.prog (Try.f6.params.toList ++ Rows.debtPlaysSpec.plain.varTypes Try.prog) (ds ++ gs)).all (· ≤ reachBytes) = true := hsz0
  have hval : ∀ (j : Nat) t v, Try.f6.params[j]? = some t → args[j]? = some v → Value.okWide Try.prog W .any base t v := hval0
  have hW' := hW
  obtain ⟨p, q, hA0, hV, rfl, hfz, hnd⟩ := hW
  have hA : DataW.TrodAll enc Try.prog W 0 (fun _ => true) true Try.f6.params.toList args.toList ds p := hA0
  rw [Try.params6] at hA hval hsz
  obtain ⟨v0, vs0, d0, ds0, p0, q0, hargs, rfl, rfl, h0, r0⟩ := trodAll_cons hA
  obtain ⟨v1, vs1, d1, ds1, p1, q1, rfl, rfl, rfl, h1, r1⟩ := trodAll_cons r0
  obtain ⟨rfl, rfl, rfl⟩ := trodAll_nil r1
  obtain rfl : args = #[v0, v1] := by cases args; simp_all
  obtain ⟨rfl, rfl⟩ := trodVars_none hV
  have k0 := h0
  have lt0 : ∀ x ∈ p0, x.block < W.heap.size := by obtain ⟨m, hm⟩ := k0; exact DataW.trod_lt m _ _ _ hm
  obtain ⟨A0, len0, c0, rfl⟩ := okWide_slice Try.underlying40 (hval 0 40 v0 rfl rfl)
  obtain ⟨fuel0, t0⟩ := h0
  obtain ⟨A'0, c'0, l0, hq0, hc0, hr0, hb0, hg0⟩ := RowAid.slice_reads Try.underlying40 (by kernel_rfl) (RowAid.elem_three Try.underlying33 (by kernel_rfl) (by kernel_rfl) (RowAid.elem_string Try.underlying9) (RowAid.elem_int Try.underlying3) (RowAid.elem_int Try.underlying3)) t0 ((RowAid.fits_param (j := 0) (t := 40) hsz rfl rfl))
  simp [Value.cells] at hq0
  obtain ⟨rfl, rfl, rfl⟩ := hq0
  have k1 := h1
  have lt1 : ∀ x ∈ p1, x.block < W.heap.size := by obtain ⟨m, hm⟩ := k1; exact DataW.trod_lt m _ _ _ hm
  obtain ⟨A1, len1, c1, rfl⟩ := okWide_slice Try.underlying22 (hval 1 22 v1 rfl rfl)
  obtain ⟨fuel1, t1⟩ := h1
  obtain ⟨A'1, c'1, l1, hq1, hc1, hr1, hb1, hg1⟩ := RowAid.slice_reads Try.underlying22 (by kernel_rfl) (RowAid.elem_three Try.underlying27 (by kernel_rfl) (by kernel_rfl) (RowAid.elem_int Try.underlying3) (RowAid.elem_int Try.underlying3) (RowAid.elem_string Try.underlying9)) t1 ((RowAid.fits_param (j := 1) (t := 22) hsz rfl rfl))
  simp [Value.cells] at hq1
  obtain ⟨rfl, rfl, rfl⟩ := hq1
  clear hA0 hval0 hsz0 hsz
  refine (Hand.plays_any A0 c0 l0 A1 c1 l1 W hr0 hc0 hb0 hr1 (fun x hx => ⟨RowAid.wf64 (hg1 x hx).1, RowAid.wf64 (hg1 x hx).2.1, Nat.le_trans (hg1 x hx).2.2 (by decide)⟩)).mono fun e W' ⟨he, bel⟩ => ?_
  subst he
  exact ⟨_, rfl, _, _, _, [], _, [], hW', trodAll_mk1 (shut_bool Try.underlying4 _), (trodAll_cons_mk (Below.trod laidOut (by kernel_rfl) (of_decide_eq_true (by kernel_rfl)) k0 bel lt0) (trodAll_cons_mk (Below.trod laidOut (by kernel_rfl) (of_decide_eq_true (by kernel_rfl)) k1 bel lt1) trodAll_mk0)), rfl, bel.frame _, fun h => by cases h⟩
theorem over : Rows.debtPlaysRow.holds Try.pinned (OpenSpec.ofChange Rows.debtPlaysSpec) :=
  OpenClaim.holds_of_wide 6 Try.f6 rfl rfl rfl rfl rfl rfl rfl ⟨rfl, rfl, rfl, rfl, rfl⟩ rfl rfl rfl rfl rfl (by kernel_rfl) Try.func6 (by kernel_rfl)
    (of_decide_eq_true (by kernel_rfl)) (by unfold Func.isWrapper; first | (rw [if_pos (by decide +kernel)]; kernel_rfl) | (rw [if_neg (by decide +kernel)]; exact ⟨rfl, rfl⟩))
    (fun os started H enc _ => lifted os started H enc)
theorem proved : Rows.DebtPlaysSaid := over
end Go.Proofs.Ytbfpggghcdfghaa.debtPlays
namespace Go.Proofs.Ytbfpggghcdfghaa
/-- The row, under a short name, for the claim. -/
theorem debtPlays_holds : Rows.DebtPlaysSaid := debtPlays.proved
#print axioms debtPlays_holds
end Go.Proofs.Ytbfpggghcdfghaa
