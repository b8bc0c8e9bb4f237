/-
  No cell of these rows narrows 'for every input' (looked for: loops, veiled, ifaces, maps, wideKeys, modest, calm, conditions, laid).
  DERIVED. THE GIVEN ROWS OF THIS SEAT. 5 by the template 'for every input the law returns true; each argument reads behind the call as it read before'; 0 by the template 'total and deterministic' (their statements: YtodonkgheffibaaTotals.lean).
  GIVEN WITH THE SEED: the statements are not yours to turn. If you find one false, say at which input.
  Laid BY PROGRAM, IN A SANDBOX (cutbox-rows.mjs): the forced cells as the released guide's own fill.sh prints them over the translation 9df19d98909f79e8… (all of the seat's roots in one cut). By AI agents, Wed Nov 11 2026. No macro, syntax, notation, axiom, sorry.
-/
import Derived.Test.YtodonkgheffibaaChecked
import GoSem.Claim
import GoSem.ClaimJoined
import GoSem.ClaimMapViews
import Derived.JoinedTies
import Derived.KernelRfl
namespace Go.Proofs.Ytodonkgheffibaa
/- THE CELL 'sum', in the pinned program and in every row, IS THE sha256 OF THE DUMP (.gsa) THAT YtodonkgheffibaaProg.lean LOADS. Nothing in Lean hashes anything: it is a label: what it is worth is what the hold of that sum in a sandbox is worth. -/
noncomputable def Try.pinned : Pinned := { name := "ytodonkgheffibaa", sum := "9df19d98909f79e8f9c77350fc1a4755d34b7800c2826cea01a301e68be6fd75", checked := Try.checked }
namespace Rows
def none {H : Type} : Left H := { results := [], args := [] }

/-- 'fareboxlaw13.RiskLists': WHATEVER THE INPUT: true; the input reads as it did. -/
def riskListsSpec : ChangeSpec := { name := "riskLists", fn := fun _ => fun
  | [d1, d2, d3] => { results := [.lit (.bool true)], args := [d1, d2, d3] }
  | _ => none }
def riskListsRow : OpenClaim := { program := "ytodonkgheffibaa", sum := "9df19d98909f79e8f9c77350fc1a4755d34b7800c2826cea01a301e68be6fd75", func := "farebox/fareboxlaw13.RiskLists", spec := "riskLists", unfollowed := true, recurses := true, apart := false }
def RiskListsSaid : Prop := riskListsRow.holds Try.pinned (OpenSpec.ofChange riskListsSpec)

/-- ITS FALSE NEIGHBOUR: 'it returns false'. Refute it at one input. -/
def riskListsWrong : ChangeSpec := { name := "riskLists", fn := fun _ => fun
  | [d1, d2, d3] => { results := [.lit (.bool false)], args := [d1, d2, d3] }
  | _ => none }
def RiskListsWrongFalsely : Prop := riskListsRow.holds Try.pinned (OpenSpec.ofChange riskListsWrong)

/-- 'fareboxlaw13.RiskThere': WHATEVER THE INPUT: true; the input reads as it did. -/
def riskThereSpec : ChangeSpec := { name := "riskThere", fn := fun _ => fun
  | [d1, d2, d3] => { results := [.lit (.bool true)], args := [d1, d2, d3] }
  | _ => none }
def riskThereRow : OpenClaim := { program := "ytodonkgheffibaa", sum := "9df19d98909f79e8f9c77350fc1a4755d34b7800c2826cea01a301e68be6fd75", func := "farebox/fareboxlaw13.RiskThere", spec := "riskThere", unfollowed := true, recurses := true, apart := false }
def RiskThereSaid : Prop := riskThereRow.holds Try.pinned (OpenSpec.ofChange riskThereSpec)

/-- ITS FALSE NEIGHBOUR: 'it returns false'. Refute it at one input. -/
def riskThereWrong : ChangeSpec := { name := "riskThere", fn := fun _ => fun
  | [d1, d2, d3] => { results := [.lit (.bool false)], args := [d1, d2, d3] }
  | _ => none }
def RiskThereWrongFalsely : Prop := riskThereRow.holds Try.pinned (OpenSpec.ofChange riskThereWrong)

/-- 'fareboxlaw13.RiskChain': WHATEVER THE INPUT: true; the input reads as it did. -/
def riskChainSpec : ChangeSpec := { name := "riskChain", fn := fun _ => fun
  | [d] => { results := [.lit (.bool true)], args := [d] }
  | _ => none }
def riskChainRow : OpenClaim := { program := "ytodonkgheffibaa", sum := "9df19d98909f79e8f9c77350fc1a4755d34b7800c2826cea01a301e68be6fd75", func := "farebox/fareboxlaw13.RiskChain", spec := "riskChain", unfollowed := true, recurses := true, apart := false }
def RiskChainSaid : Prop := riskChainRow.holds Try.pinned (OpenSpec.ofChange riskChainSpec)

/-- ITS FALSE NEIGHBOUR: 'it returns false'. Refute it at one input. -/
def riskChainWrong : ChangeSpec := { name := "riskChain", fn := fun _ => fun
  | [d] => { results := [.lit (.bool false)], args := [d] }
  | _ => none }
def RiskChainWrongFalsely : Prop := riskChainRow.holds Try.pinned (OpenSpec.ofChange riskChainWrong)

/-- 'fareboxlaw13.RiskDeltas': WHATEVER THE INPUT: true; the input reads as it did. -/
def riskDeltasSpec : ChangeSpec := { name := "riskDeltas", fn := fun _ => fun
  | [d1, d2, d3, d4] => { results := [.lit (.bool true)], args := [d1, d2, d3, d4] }
  | _ => none }
def riskDeltasRow : OpenClaim := { program := "ytodonkgheffibaa", sum := "9df19d98909f79e8f9c77350fc1a4755d34b7800c2826cea01a301e68be6fd75", func := "farebox/fareboxlaw13.RiskDeltas", spec := "riskDeltas", unfollowed := true, recurses := true, apart := false }
def RiskDeltasSaid : Prop := riskDeltasRow.holds Try.pinned (OpenSpec.ofChange riskDeltasSpec)

/-- ITS FALSE NEIGHBOUR: 'it returns false'. Refute it at one input. -/
def riskDeltasWrong : ChangeSpec := { name := "riskDeltas", fn := fun _ => fun
  | [d1, d2, d3, d4] => { results := [.lit (.bool false)], args := [d1, d2, d3, d4] }
  | _ => none }
def RiskDeltasWrongFalsely : Prop := riskDeltasRow.holds Try.pinned (OpenSpec.ofChange riskDeltasWrong)

/-- 'fareboxlaw13.RiskJoins': WHATEVER THE INPUT: true; the input reads as it did. -/
def riskJoinsSpec : ChangeSpec := { name := "riskJoins", fn := fun _ => fun
  | [d1, d2, d3, d4] => { results := [.lit (.bool true)], args := [d1, d2, d3, d4] }
  | _ => none }
def riskJoinsRow : OpenClaim := { program := "ytodonkgheffibaa", sum := "9df19d98909f79e8f9c77350fc1a4755d34b7800c2826cea01a301e68be6fd75", func := "farebox/fareboxlaw13.RiskJoins", spec := "riskJoins", unfollowed := true, recurses := true, apart := false }
def RiskJoinsSaid : Prop := riskJoinsRow.holds Try.pinned (OpenSpec.ofChange riskJoinsSpec)

/-- ITS FALSE NEIGHBOUR: 'it returns false'. Refute it at one input. -/
def riskJoinsWrong : ChangeSpec := { name := "riskJoins", fn := fun _ => fun
  | [d1, d2, d3, d4] => { results := [.lit (.bool false)], args := [d1, d2, d3, d4] }
  | _ => none }
def RiskJoinsWrongFalsely : Prop := riskJoinsRow.holds Try.pinned (OpenSpec.ofChange riskJoinsWrong)

/- THE SECOND FORM. 'bulk': how many values and letters a reading holds, each counted each time it is reached (what is shared counts as often as it is met; a slice's spare places count too). A statement '..UptoSaid' is the law's where the arguments, and the package variables that the reading takes, are together of bulk at most 1048576: NARROWER than '..Said'. Prove '..Said' where nothing that the law and all that it calls make is longer than what came in: it says more and counts as full. Else prove '..UptoSaid'. A law counts once. -/
mutual
def uptoBulk {H : Type} : DataW H → Nat
  | .lit (.string bytes) => bytes.length + 1
  | .lit _ => 1
  | .nil => 1
  | .ptr d => uptoBulk d + 1
  | .slice elems spare => uptoBulkAll elems + uptoBulkAll spare + 1
  | .agg parts => uptoBulkAll parts + 1
  | .iface _ d => uptoBulk d + 1
  | .map entries => uptoBulkEntries entries + 1
  | .held _ => 1
def uptoBulkAll {H : Type} : List (DataW H) → Nat
  | [] => 0
  | d :: r => uptoBulk d + uptoBulkAll r
def uptoBulkEntries {H : Type} : List (Lit × DataW H) → Nat
  | [] => 0
  | x :: r => uptoBulkEntry x + uptoBulkEntries r
def uptoBulkEntry {H : Type} : Lit × DataW H → Nat
  | (.string bytes, d) => bytes.length + uptoBulk d + 1
  | (_, d) => uptoBulk d + 1
 end
def uptoSmall : (H : Type) → List (DataW H) → Bool := fun _ ds => decide (uptoBulkAll ds ≤ 1048576)
def OpenSpec.upto (s : _root_.Go.ChangeSpec) : _root_.Go.OpenSpec := { _root_.Go.OpenSpec.ofChange s with cond := some uptoSmall }

/-- 'fareboxlaw13.RiskLists', WHERE WHAT IT READS IS OF BULK AT MOST 1048576: true; the input reads as it did. -/
def riskListsUptoRow : OpenClaim := { program := "ytodonkgheffibaa", sum := "9df19d98909f79e8f9c77350fc1a4755d34b7800c2826cea01a301e68be6fd75", func := "farebox/fareboxlaw13.RiskLists", spec := "riskLists", unfollowed := true, recurses := true, apart := false, narrowed := true }
def RiskListsUptoSaid : Prop := riskListsUptoRow.holds Try.pinned (OpenSpec.upto riskListsSpec)

/-- 'fareboxlaw13.RiskThere', WHERE WHAT IT READS IS OF BULK AT MOST 1048576: true; the input reads as it did. -/
def riskThereUptoRow : OpenClaim := { program := "ytodonkgheffibaa", sum := "9df19d98909f79e8f9c77350fc1a4755d34b7800c2826cea01a301e68be6fd75", func := "farebox/fareboxlaw13.RiskThere", spec := "riskThere", unfollowed := true, recurses := true, apart := false, narrowed := true }
def RiskThereUptoSaid : Prop := riskThereUptoRow.holds Try.pinned (OpenSpec.upto riskThereSpec)

/-- 'fareboxlaw13.RiskChain', WHERE WHAT IT READS IS OF BULK AT MOST 1048576: true; the input reads as it did. -/
def riskChainUptoRow : OpenClaim := { program := "ytodonkgheffibaa", sum := "9df19d98909f79e8f9c77350fc1a4755d34b7800c2826cea01a301e68be6fd75", func := "farebox/fareboxlaw13.RiskChain", spec := "riskChain", unfollowed := true, recurses := true, apart := false, narrowed := true }
def RiskChainUptoSaid : Prop := riskChainUptoRow.holds Try.pinned (OpenSpec.upto riskChainSpec)

/-- 'fareboxlaw13.RiskDeltas', WHERE WHAT IT READS IS OF BULK AT MOST 1048576: true; the input reads as it did. -/
def riskDeltasUptoRow : OpenClaim := { program := "ytodonkgheffibaa", sum := "9df19d98909f79e8f9c77350fc1a4755d34b7800c2826cea01a301e68be6fd75", func := "farebox/fareboxlaw13.RiskDeltas", spec := "riskDeltas", unfollowed := true, recurses := true, apart := false, narrowed := true }
def RiskDeltasUptoSaid : Prop := riskDeltasUptoRow.holds Try.pinned (OpenSpec.upto riskDeltasSpec)

/-- 'fareboxlaw13.RiskJoins', WHERE WHAT IT READS IS OF BULK AT MOST 1048576: true; the input reads as it did. -/
def riskJoinsUptoRow : OpenClaim := { program := "ytodonkgheffibaa", sum := "9df19d98909f79e8f9c77350fc1a4755d34b7800c2826cea01a301e68be6fd75", func := "farebox/fareboxlaw13.RiskJoins", spec := "riskJoins", unfollowed := true, recurses := true, apart := false, narrowed := true }
def RiskJoinsUptoSaid : Prop := riskJoinsUptoRow.holds Try.pinned (OpenSpec.upto riskJoinsSpec)

end Rows
end Go.Proofs.Ytodonkgheffibaa
