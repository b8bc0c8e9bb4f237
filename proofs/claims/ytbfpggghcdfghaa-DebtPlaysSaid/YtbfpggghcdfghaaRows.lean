/-
  No cell of these rows narrows 'for every input' (looked for: loops, veiled, ifaces, maps, wideKeys, modest, calm, conditions, laid).
  DERIVED. THE GIVEN ROWS OF THIS SEAT. 4 by the template 'for every input the law returns true; each argument reads behind the call as it read before'; 0 by the template 'total and deterministic' (their statements: YtbfpggghcdfghaaTotals.lean).
  GIVEN WITH THE SEED: the statements are not yours to turn. If you find one false, say at which input.
  Laid BY PROGRAM, IN A SANDBOX (cutbox-rows.mjs): the forced cells as the released guide's own fill.sh prints them over the translation 2e33bbccf915c0a2… (all of the seat's roots in one cut). By AI agents, Wed Nov 11 2026. No macro, syntax, notation, axiom, sorry.
-/
import Derived.Test.YtbfpggghcdfghaaChecked
import GoSem.Claim
import GoSem.ClaimJoined
import GoSem.ClaimMapViews
import Derived.JoinedTies
import Derived.KernelRfl
namespace Go.Proofs.Ytbfpggghcdfghaa
/- THE CELL 'sum', in the pinned program and in every row, IS THE sha256 OF THE DUMP (.gsa) THAT YtbfpggghcdfghaaProg.lean LOADS. Nothing in Lean hashes anything: it is a label: what it is worth is what the hold of that sum in a sandbox is worth. -/
noncomputable def Try.pinned : Pinned := { name := "ytbfpggghcdfghaa", sum := "2e33bbccf915c0a2a55902357b283b0caf98702812e91cac4512ab59dbf9c6f8", checked := Try.checked }
namespace Rows
def none {H : Type} : Left H := { results := [], args := [] }

/-- 'fareboxlaw22.DebtSums': WHATEVER THE INPUT: true; the input reads as it did. -/
def debtSumsSpec : ChangeSpec := { name := "debtSums", fn := fun _ => fun
  | [d1, d2] => { results := [.lit (.bool true)], args := [d1, d2] }
  | _ => none }
def debtSumsRow : OpenClaim := { program := "ytbfpggghcdfghaa", sum := "2e33bbccf915c0a2a55902357b283b0caf98702812e91cac4512ab59dbf9c6f8", func := "farebox/fareboxlaw22.DebtSums", spec := "debtSums", unfollowed := true, recurses := true, apart := false }
def DebtSumsSaid : Prop := debtSumsRow.holds Try.pinned (OpenSpec.ofChange debtSumsSpec)

/-- ITS FALSE NEIGHBOUR: 'it returns false'. Refute it at one input. -/
def debtSumsWrong : ChangeSpec := { name := "debtSums", fn := fun _ => fun
  | [d1, d2] => { results := [.lit (.bool false)], args := [d1, d2] }
  | _ => none }
def DebtSumsWrongFalsely : Prop := debtSumsRow.holds Try.pinned (OpenSpec.ofChange debtSumsWrong)

/-- 'fareboxlaw22.DebtApart': WHATEVER THE INPUT: true; the input reads as it did. -/
def debtApartSpec : ChangeSpec := { name := "debtApart", fn := fun _ => fun
  | [d1, d2, d3, d4] => { results := [.lit (.bool true)], args := [d1, d2, d3, d4] }
  | _ => none }
def debtApartRow : OpenClaim := { program := "ytbfpggghcdfghaa", sum := "2e33bbccf915c0a2a55902357b283b0caf98702812e91cac4512ab59dbf9c6f8", func := "farebox/fareboxlaw22.DebtApart", spec := "debtApart", unfollowed := true, recurses := true, apart := false }
def DebtApartSaid : Prop := debtApartRow.holds Try.pinned (OpenSpec.ofChange debtApartSpec)

/-- ITS FALSE NEIGHBOUR: 'it returns false'. Refute it at one input. -/
def debtApartWrong : ChangeSpec := { name := "debtApart", fn := fun _ => fun
  | [d1, d2, d3, d4] => { results := [.lit (.bool false)], args := [d1, d2, d3, d4] }
  | _ => none }
def DebtApartWrongFalsely : Prop := debtApartRow.holds Try.pinned (OpenSpec.ofChange debtApartWrong)

/-- 'fareboxlaw22.DebtListed': WHATEVER THE INPUT: true; the input reads as it did. -/
def debtListedSpec : ChangeSpec := { name := "debtListed", fn := fun _ => fun
  | [d1, d2, d3] => { results := [.lit (.bool true)], args := [d1, d2, d3] }
  | _ => none }
def debtListedRow : OpenClaim := { program := "ytbfpggghcdfghaa", sum := "2e33bbccf915c0a2a55902357b283b0caf98702812e91cac4512ab59dbf9c6f8", func := "farebox/fareboxlaw22.DebtListed", spec := "debtListed", unfollowed := true, recurses := true, apart := false }
def DebtListedSaid : Prop := debtListedRow.holds Try.pinned (OpenSpec.ofChange debtListedSpec)

/-- ITS FALSE NEIGHBOUR: 'it returns false'. Refute it at one input. -/
def debtListedWrong : ChangeSpec := { name := "debtListed", fn := fun _ => fun
  | [d1, d2, d3] => { results := [.lit (.bool false)], args := [d1, d2, d3] }
  | _ => none }
def DebtListedWrongFalsely : Prop := debtListedRow.holds Try.pinned (OpenSpec.ofChange debtListedWrong)

/-- 'fareboxlaw22.DebtPlays': WHATEVER THE INPUT: true; the input reads as it did. -/
def debtPlaysSpec : ChangeSpec := { name := "debtPlays", fn := fun _ => fun
  | [d1, d2] => { results := [.lit (.bool true)], args := [d1, d2] }
  | _ => none }
def debtPlaysRow : OpenClaim := { program := "ytbfpggghcdfghaa", sum := "2e33bbccf915c0a2a55902357b283b0caf98702812e91cac4512ab59dbf9c6f8", func := "farebox/fareboxlaw22.DebtPlays", spec := "debtPlays", unfollowed := true, recurses := true, apart := false }
def DebtPlaysSaid : Prop := debtPlaysRow.holds Try.pinned (OpenSpec.ofChange debtPlaysSpec)

/-- ITS FALSE NEIGHBOUR: 'it returns false'. Refute it at one input. -/
def debtPlaysWrong : ChangeSpec := { name := "debtPlays", fn := fun _ => fun
  | [d1, d2] => { results := [.lit (.bool false)], args := [d1, d2] }
  | _ => none }
def DebtPlaysWrongFalsely : Prop := debtPlaysRow.holds Try.pinned (OpenSpec.ofChange debtPlaysWrong)

/- THE SECOND FORM. 'bulk': how many values and letters a reading holds, each counted each time it is reached (what is shared counts as often as it is met; a slice's spare places count too). A statement '..UptoSaid' is the law's where the arguments, and the package variables that the reading takes, are together of bulk at most 1048576: NARROWER than '..Said'. Prove '..Said' where nothing that the law and all that it calls make is longer than what came in: it says more and counts as full. Else prove '..UptoSaid'. A law counts once. -/
mutual
def uptoBulk {H : Type} : DataW H → Nat
  | .lit (.string bytes) => bytes.length + 1
  | .lit _ => 1
  | .nil => 1
  | .ptr d => uptoBulk d + 1
  | .slice elems spare => uptoBulkAll elems + uptoBulkAll spare + 1
  | .agg parts => uptoBulkAll parts + 1
  | .iface _ d => uptoBulk d + 1
  | .map entries => uptoBulkEntries entries + 1
  | .held _ => 1
def uptoBulkAll {H : Type} : List (DataW H) → Nat
  | [] => 0
  | d :: r => uptoBulk d + uptoBulkAll r
def uptoBulkEntries {H : Type} : List (Lit × DataW H) → Nat
  | [] => 0
  | x :: r => uptoBulkEntry x + uptoBulkEntries r
def uptoBulkEntry {H : Type} : Lit × DataW H → Nat
  | (.string bytes, d) => bytes.length + uptoBulk d + 1
  | (_, d) => uptoBulk d + 1
 end
def uptoSmall : (H : Type) → List (DataW H) → Bool := fun _ ds => decide (uptoBulkAll ds ≤ 1048576)
def OpenSpec.upto (s : _root_.Go.ChangeSpec) : _root_.Go.OpenSpec := { _root_.Go.OpenSpec.ofChange s with cond := some uptoSmall }

/-- 'fareboxlaw22.DebtSums', WHERE WHAT IT READS IS OF BULK AT MOST 1048576: true; the input reads as it did. -/
def debtSumsUptoRow : OpenClaim := { program := "ytbfpggghcdfghaa", sum := "2e33bbccf915c0a2a55902357b283b0caf98702812e91cac4512ab59dbf9c6f8", func := "farebox/fareboxlaw22.DebtSums", spec := "debtSums", unfollowed := true, recurses := true, apart := false, narrowed := true }
def DebtSumsUptoSaid : Prop := debtSumsUptoRow.holds Try.pinned (OpenSpec.upto debtSumsSpec)

/-- 'fareboxlaw22.DebtApart', WHERE WHAT IT READS IS OF BULK AT MOST 1048576: true; the input reads as it did. -/
def debtApartUptoRow : OpenClaim := { program := "ytbfpggghcdfghaa", sum := "2e33bbccf915c0a2a55902357b283b0caf98702812e91cac4512ab59dbf9c6f8", func := "farebox/fareboxlaw22.DebtApart", spec := "debtApart", unfollowed := true, recurses := true, apart := false, narrowed := true }
def DebtApartUptoSaid : Prop := debtApartUptoRow.holds Try.pinned (OpenSpec.upto debtApartSpec)

/-- 'fareboxlaw22.DebtListed', WHERE WHAT IT READS IS OF BULK AT MOST 1048576: true; the input reads as it did. -/
def debtListedUptoRow : OpenClaim := { program := "ytbfpggghcdfghaa", sum := "2e33bbccf915c0a2a55902357b283b0caf98702812e91cac4512ab59dbf9c6f8", func := "farebox/fareboxlaw22.DebtListed", spec := "debtListed", unfollowed := true, recurses := true, apart := false, narrowed := true }
def DebtListedUptoSaid : Prop := debtListedUptoRow.holds Try.pinned (OpenSpec.upto debtListedSpec)

/-- 'fareboxlaw22.DebtPlays', WHERE WHAT IT READS IS OF BULK AT MOST 1048576: true; the input reads as it did. -/
def debtPlaysUptoRow : OpenClaim := { program := "ytbfpggghcdfghaa", sum := "2e33bbccf915c0a2a55902357b283b0caf98702812e91cac4512ab59dbf9c6f8", func := "farebox/fareboxlaw22.DebtPlays", spec := "debtPlays", unfollowed := true, recurses := true, apart := false, narrowed := true }
def DebtPlaysUptoSaid : Prop := debtPlaysUptoRow.holds Try.pinned (OpenSpec.upto debtPlaysSpec)

end Rows
end Go.Proofs.Ytbfpggghcdfghaa
