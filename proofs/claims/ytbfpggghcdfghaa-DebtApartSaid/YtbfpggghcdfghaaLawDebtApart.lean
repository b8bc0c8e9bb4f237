/- The row of DebtApart: what a call is handed, opened; the walk's contract; the arguments read as before. Written by a program of this session (wip/tools/mkRow.py). -/
import Derived.Test.YtbfpggghcdfghaaRows
import Derived.Test.YtbfpggghcdfghaaHandI
import Derived.Test.YtbfpggghcdfghaaRowAid
import Derived.WalkKit
import Derived.ProofKit
import Derived.OpenShut
import Derived.ShutString
import Derived.ChangeOld
import Derived.Below
import Derived.Carry
import Derived.SizedLaws
namespace Go.Proofs.Ytbfpggghcdfghaa.debtApart
open Go.ChangeShapes Go.WideShapes Go.ChangeAt Go.RowKit 
open Go.ChangeMaps (open_string shut_string)
set_option linter.unusedVariables false
theorem own : ownKnob Try.prog.godebug = none := by kernel_rfl
theorem laidOut : laidOutB Try.prog = true := by kernel_rfl
set_option maxRecDepth 100000 in
theorem lifted (os : Os) (started : os.Started) (H : Type) (enc : TypeId × Value → H) :
    ReturnsInHanded {} Try.checked os 4 .any (Rows.debtApartSpec.pre6 enc Try.prog Try.f4 Rows.debtApartRow.domain false) (Rows.debtApartSpec.post enc Try.prog Try.f4 false true false false) := by
  refine returnsInHanded_of_change_sized (C := Try.checked) own started (by kernel_rfl) Try.func4
    (ChangeSpec.witness6 (enc := enc) (C := Try.checked) false ⟨#[], #[.string ByteArray.empty, .string ByteArray.empty, .slice none 0 0, .slice none 0 0], []⟩ 8 (by kernel_rfl) (by kernel_rfl) (by kernel_rfl) (by kernel_rfl)) ?_
  intro W base args ds gs before hval0 hW hcnd hsz0 _
  have hsz : (DataW.weightsEach Try.prog (Try.f4.params.toList ++ Rows.debtApartSpec.plain.varTypes Try.prog) (ds ++ gs)).all (· ≤ reachBytes) = true := hsz0
  have hval : ∀ (j : Nat) t v, Try.f4.params[j]? = some t → args[j]? = some v → Value.okWide Try.prog W .any base t v := hval0
  have hW' := hW
  obtain ⟨p, q, hA0, hV, rfl, hfz, hnd⟩ := hW
  have hA : DataW.TrodAll enc Try.prog W 0 (fun _ => true) true Try.f4.params.toList args.toList ds p := hA0
  rw [Try.params4] at hA hval hsz
  obtain ⟨v0, vs0, d0, ds0, p0, q0, hargs, rfl, rfl, h0, r0⟩ := trodAll_cons hA
  obtain ⟨v1, vs1, d1, ds1, p1, q1, rfl, rfl, rfl, h1, r1⟩ := trodAll_cons r0
  obtain ⟨v2, vs2, d2, ds2, p2, q2, rfl, rfl, rfl, h2, r2⟩ := trodAll_cons r1
  obtain ⟨v3, vs3, d3, ds3, p3, q3, rfl, rfl, rfl, h3, r3⟩ := trodAll_cons r2
  obtain ⟨rfl, rfl, rfl⟩ := trodAll_nil r3
  obtain rfl : args = #[v0, v1, v2, v3] := by cases args; simp_all
  obtain ⟨rfl, rfl⟩ := trodVars_none hV
  have k0 := h0
  have lt0 : ∀ x ∈ p0, x.block < W.heap.size := by obtain ⟨m, hm⟩ := k0; exact DataW.trod_lt m _ _ _ hm
  obtain ⟨a0, rfl, rfl, rfl, y0⟩ := open_string Try.underlying9 (hval 0 9 v0 rfl rfl) h0
  have w0 : a0.size ≤ 140737488351232 := by
    have z := RowAid.fits_string (RowAid.fits_param (j := 0) (t := 9) hsz rfl rfl)
    rw [Array.length_toList] at z
    exact z
  have k1 := h1
  have lt1 : ∀ x ∈ p1, x.block < W.heap.size := by obtain ⟨m, hm⟩ := k1; exact DataW.trod_lt m _ _ _ hm
  obtain ⟨a1, rfl, rfl, rfl, y1⟩ := open_string Try.underlying9 (hval 1 9 v1 rfl rfl) h1
  have w1 : a1.size ≤ 140737488351232 := by
    have z := RowAid.fits_string (RowAid.fits_param (j := 1) (t := 9) hsz rfl rfl)
    rw [Array.length_toList] at z
    exact z
  have k2 := h2
  have lt2 : ∀ x ∈ p2, x.block < W.heap.size := by obtain ⟨m, hm⟩ := k2; exact DataW.trod_lt m _ _ _ hm
  obtain ⟨A2, len2, c2, rfl⟩ := okWide_slice Try.underlying22 (hval 2 22 v2 rfl rfl)
  obtain ⟨fuel2, t2⟩ := h2
  obtain ⟨A'2, c'2, l2, hq2, hc2, hr2, hb2, hg2⟩ := RowAid.slice_reads Try.underlying22 (by kernel_rfl) (RowAid.elem_three Try.underlying27 (by kernel_rfl) (by kernel_rfl) (RowAid.elem_int Try.underlying3) (RowAid.elem_int Try.underlying3) (RowAid.elem_string Try.underlying9)) t2 ((RowAid.fits_param (j := 2) (t := 22) hsz rfl rfl))
  simp [Value.cells] at hq2
  obtain ⟨rfl, rfl, rfl⟩ := hq2
  have k3 := h3
  have lt3 : ∀ x ∈ p3, x.block < W.heap.size := by obtain ⟨m, hm⟩ := k3; exact DataW.trod_lt m _ _ _ hm
  obtain ⟨A3, len3, c3, rfl⟩ := okWide_slice Try.underlying22 (hval 3 22 v3 rfl rfl)
  obtain ⟨fuel3, t3⟩ := h3
  obtain ⟨A'3, c'3, l3, hq3, hc3, hr3, hb3, hg3⟩ := RowAid.slice_reads Try.underlying22 (by kernel_rfl) (RowAid.elem_three Try.underlying27 (by kernel_rfl) (by kernel_rfl) (RowAid.elem_int Try.underlying3) (RowAid.elem_int Try.underlying3) (RowAid.elem_string Try.underlying9)) t3 ((RowAid.fits_param (j := 3) (t := 22) hsz rfl rfl))
  simp [Value.cells] at hq3
  obtain ⟨rfl, rfl, rfl⟩ := hq3
  clear hA0 hval0 hsz0 hsz
  refine (Hand.apart_any a0 a1 A2 c2 l2 A3 c3 l3 W hr2 (fun x hx => RowAid.wf64 (hg2 x hx).2.1) hr3 (fun x hx => RowAid.wf64 (hg3 x hx).2.1) (by unfold maxLen; omega) (by unfold maxLen; omega)).mono fun e W' ⟨he, bel⟩ => ?_
  subst he
  exact ⟨_, rfl, _, _, _, [], _, [], hW', trodAll_mk1 (shut_bool Try.underlying4 _), (trodAll_cons_mk (Below.trod laidOut (by kernel_rfl) (of_decide_eq_true (by kernel_rfl)) k0 bel lt0) (trodAll_cons_mk (Below.trod laidOut (by kernel_rfl) (of_decide_eq_true (by kernel_rfl)) k1 bel lt1) (trodAll_cons_mk (Below.trod laidOut (by kernel_rfl) (of_decide_eq_true (by kernel_rfl)) k2 bel lt2) (trodAll_cons_mk (Below.trod laidOut (by kernel_rfl) (of_decide_eq_true (by kernel_rfl)) k3 bel lt3) trodAll_mk0)))), rfl, bel.frame _, fun h => by cases h⟩
theorem over : Rows.debtApartRow.holds Try.pinned (OpenSpec.ofChange Rows.debtApartSpec) :=
  OpenClaim.holds_of_wide 4 Try.f4 rfl rfl rfl rfl rfl rfl rfl ⟨rfl, rfl, rfl, rfl, rfl⟩ rfl rfl rfl rfl rfl (by kernel_rfl) Try.func4 (by kernel_rfl)
    (of_decide_eq_true (by kernel_rfl)) (by unfold Func.isWrapper; first | (rw [if_pos (by decide +kernel)]; kernel_rfl) | (rw [if_neg (by decide +kernel)]; exact ⟨rfl, rfl⟩))
    (fun os started H enc _ => lifted os started H enc)
theorem proved : Rows.DebtApartSaid := over
end Go.Proofs.Ytbfpggghcdfghaa.debtApart
namespace Go.Proofs.Ytbfpggghcdfghaa
/-- The row, under a short name, for the claim. -/
theorem debtApart_holds : Rows.DebtApartSaid := debtApart.proved
#print axioms debtApart_holds
end Go.Proofs.Ytbfpggghcdfghaa
