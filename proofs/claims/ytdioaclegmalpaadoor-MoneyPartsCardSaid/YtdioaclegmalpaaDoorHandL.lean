/- What the rows' listed variables give a walk; a start that fits. -/
import Derived.Test.YtdioaclegmalpaaDoorRows
import Derived.Test.YtdioaclegmalpaaDoorHandA
import Derived.Stop.LaidErr
import Derived.LaidMore
import Derived.LaidHandle
import Derived.ProofKit
import Derived.Stop.Joined
namespace Go.Proofs.YtdioaclegmalpaaDoor.Hand
open Go Go.RowKit Go.ChangeShapes

def laid5 : List (String × DataW Unit) := [("math/bits.deBruijn32tab", Rows.laid_math_bits_deBruijn32tab), ("math/bits.deBruijn64tab", Rows.laid_math_bits_deBruijn64tab), ("internal/strconv.uint64pow10", Rows.laid_internal_strconv_uint64pow10), ("strconv.ErrRange", Rows.laid_strconv_ErrRange), ("strconv.ErrSyntax", Rows.laid_strconv_ErrSyntax)]
theorem gPow : Tryd.prog.globalNamed "internal/strconv.uint64pow10" = some 4 := by kernel_rfl
theorem tPow : (Tryd.prog.globals[4]?).map (·.type) = some 90 := by kernel_rfl
theorem gRan : Tryd.prog.globalNamed "strconv.ErrRange" = some 3 := by kernel_rfl
theorem tRan : (Tryd.prog.globals[3]?).map (·.type) = some 58 := by kernel_rfl
theorem gSyn : Tryd.prog.globalNamed "strconv.ErrSyntax" = some 2 := by kernel_rfl
theorem tSyn : (Tryd.prog.globals[2]?).map (·.type) = some 58 := by kernel_rfl
theorem c39 : Tryd.prog.cellsOf 39 = 1 := by kernel_rfl
theorem c90 : Tryd.prog.cellsOf 90 = 20 := by kernel_rfl
theorem c101 : Tryd.prog.cellsOf 101 = 1 := by kernel_rfl
theorem c9 : Tryd.prog.cellsOf 9 = 1 := by kernel_rfl
theorem star : "*" ++ "errors.errorString" = "*errors.errorString" := by decide
theorem row99 (u : TypeId) (h : Tryd.prog.typeName? 3 u = some "*errors.errorString") : u = 99 :=
  typeName_ptr_named (nm := "errors.errorString") (by rw [star]; kernel_rfl) (by kernel_rfl) (by decide) u (by rw [star]; exact h)

theorem of_laid {W : World} (h : laidMetH Tryd.prog laid5 W) : Laid W := by
  rw [MakeChecks.laidMetH_plain _ _ _ (by kernel_rfl)] at h
  have h3 := h.tail.tail
  have h4 := h3.tail
  have h5 := h4.tail
  obtain ⟨a1, s1, v1, -, -, -⟩ := laid_sentinel h4 gRan tRan Tryd.underlying58 row99 Tryd.underlying99 Tryd.underlying101 rfl rfl Tryd.underlying9 c101 c9
  obtain ⟨a2, s2, v2, -, -, -⟩ := laid_sentinel h5 gSyn tSyn Tryd.underlying58 row99 Tryd.underlying99 Tryd.underlying101 rfl rfl Tryd.underlying9 c101 c9
  refine ⟨Lib.tabIs_of_head gPow tPow Tryd.underlying90 Tryd.underlying39 c39 c90 h3, ⟨99, .pointer (some a2), ?_⟩, ⟨99, .pointer (some a1), ?_⟩⟩
  · have h0 := World.var?_cell gSyn v2 0
    simpa using h0
  · have h0 := World.var?_cell gRan v1 0
    simpa using h0

theorem door_met (os : Os) (args : Array Value) : laidMetH Tryd.prog laid5 ((World.doorLaid Tryd.prog 4000 os).forCall (fun _ _ => 0) ⟨#[], args, []⟩).memory :=
  laidMetH_of_parts3 (fuel := 8) (laidMet_of_run' 8 (by kernel_rfl) (by kernel_rfl)) (by kernel_rfl) (by kernel_rfl)
end Go.Proofs.YtdioaclegmalpaaDoor.Hand
