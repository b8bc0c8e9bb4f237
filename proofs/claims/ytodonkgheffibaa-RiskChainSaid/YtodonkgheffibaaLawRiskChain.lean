/- The row of RiskChain: what a call is handed, opened; the walk's contract; the arguments read as before. Written by a program of this session (wip/tools/mkRow.py). -/
import Derived.Test.YtodonkgheffibaaRows
import Derived.Test.YtodonkgheffibaaPureE
import Derived.Test.YtodonkgheffibaaXCx4
import Derived.Test.YtodonkgheffibaaRowAid
import Derived.WalkKit
import Derived.ProofKit
import Derived.OpenShut
import Derived.ShutString
import Derived.ChangeOld
import Derived.Below
import Derived.Carry
import Derived.SizedLaws
namespace Go.Proofs.Ytodonkgheffibaa.riskChain
open Go.ChangeShapes Go.WideShapes Go.ChangeAt Go.RowKit 
open Go.ChangeMaps (open_string shut_string)
set_option linter.unusedVariables false
theorem own : ownKnob Try.prog.godebug = none := by kernel_rfl
theorem laidOut : laidOutB Try.prog = true := by kernel_rfl
set_option maxRecDepth 100000 in
theorem lifted (os : Os) (started : os.Started) (H : Type) (enc : TypeId × Value → H) :
    ReturnsInHanded {} Try.checked os 5 .any (Rows.riskChainSpec.pre6 enc Try.prog Try.f5 Rows.riskChainRow.domain false) (Rows.riskChainSpec.post enc Try.prog Try.f5 false true false false) := by
  refine returnsInHanded_of_change_sized (C := Try.checked) own started (by kernel_rfl) Try.func5
    (ChangeSpec.witness6 (enc := enc) (C := Try.checked) false ⟨#[], #[.slice none 0 0], []⟩ 8 (by kernel_rfl) (by kernel_rfl) (by kernel_rfl) (by kernel_rfl)) ?_
  intro W base args ds gs before hval0 hW hcnd hsz0 _
  have hsz : (DataW.weightsEach Try.prog (Try.f5.params.toList ++ Rows.riskChainSpec.plain.varTypes Try.prog) (ds ++ gs)).all (· ≤ reachBytes) = true := hsz0
  have hval : ∀ (j : Nat) t v, Try.f5.params[j]? = some t → args[j]? = some v → Value.okWide Try.prog W .any base t v := hval0
  have hW' := hW
  obtain ⟨p, q, hA0, hV, rfl, hfz, hnd⟩ := hW
  have hA : DataW.TrodAll enc Try.prog W 0 (fun _ => true) true Try.f5.params.toList args.toList ds p := hA0
  rw [Try.params5] at hA hval hsz
  obtain ⟨v0, vs0, d0, ds0, p0, q0, hargs, rfl, rfl, h0, r0⟩ := trodAll_cons hA
  obtain ⟨rfl, rfl, rfl⟩ := trodAll_nil r0
  obtain rfl : args = #[v0] := by cases args; simp_all
  obtain ⟨rfl, rfl⟩ := trodVars_none hV
  have k0 := h0
  have lt0 : ∀ x ∈ p0, x.block < W.heap.size := by obtain ⟨m, hm⟩ := k0; exact DataW.trod_lt m _ _ _ hm
  obtain ⟨A0, len0, c0, rfl⟩ := okWide_slice Try.underlying42 (hval 0 42 v0 rfl rfl)
  obtain ⟨fuel0, t0⟩ := h0
  obtain ⟨A'0, c'0, l0, hq0, hc0, hr0, hb0, hg0⟩ := RowAid.slice_reads Try.underlying42 (by kernel_rfl) (RowAid.elem_slice Try.underlying22 (by kernel_rfl) (RowAid.elem_string Try.underlying9)) t0 ((RowAid.fits_param (j := 0) (t := 42) hsz rfl rfl))
  simp [Value.cells] at hq0
  obtain ⟨rfl, rfl, rfl⟩ := hq0
  clear hA0 hval0 hsz0 hsz
  have hb := Nat.le_trans (Nat.le_mul_of_pos_right l0.length (by decide : 0 < 24)) hb0
  obtain ⟨k, h⟩ := PE.chain_true l0 (Nat.le_trans hb (by decide)) (fun x hx => (hg0 x hx).1)
  refine (XC.fareboxlaw13_RiskChain.calls k A0 c0 l0 true W hr0 hc0 h).mono fun e W' ⟨he, bel⟩ => ?_
  subst he
  exact ⟨_, rfl, _, _, _, [], _, [], hW', trodAll_mk1 (shut_bool Try.underlying4 _), (trodAll_cons_mk (Below.trod laidOut (by kernel_rfl) (of_decide_eq_true (by kernel_rfl)) k0 bel lt0) trodAll_mk0), rfl, bel.frame _, fun h => by cases h⟩
theorem over : Rows.riskChainRow.holds Try.pinned (OpenSpec.ofChange Rows.riskChainSpec) :=
  OpenClaim.holds_of_wide 5 Try.f5 rfl rfl rfl rfl rfl rfl rfl ⟨rfl, rfl, rfl, rfl, rfl⟩ rfl rfl rfl rfl rfl (by kernel_rfl) Try.func5 (by kernel_rfl)
    (of_decide_eq_true (by kernel_rfl)) (by unfold Func.isWrapper; first | (rw [if_pos (by decide +kernel)]; kernel_rfl) | (rw [if_neg (by decide +kernel)]; exact ⟨rfl, rfl⟩))
    (fun os started H enc _ => lifted os started H enc)
theorem proved : Rows.RiskChainSaid := over
end Go.Proofs.Ytodonkgheffibaa.riskChain
namespace Go.Proofs.Ytodonkgheffibaa
/-- The row, under a short name, for the claim. -/
theorem riskChain_holds : Rows.RiskChainSaid := riskChain.proved
#print axioms riskChain_holds
end Go.Proofs.Ytodonkgheffibaa
