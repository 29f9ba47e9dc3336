/- What the listed variables give the walks; a start that fits. -/
import Derived.Test.YtifkfhnbkjkakaaGreatDoorZrNuV
import Derived.Test.YtifkfhnbkjkakaaGreatDoorZrSeY
import Derived.LaidLaws
import Derived.LaidMore
import Derived.Lib.LaidTab
import Derived.Stop.LaidErr
import Derived.Test.YtifkfhnbkjkakaaGreatDoorRows
namespace Go.Proofs.YtifkfhnbkjkakaaGreatDoor
set_option linter.unusedSimpArgs false
set_option linter.unusedVariables false
open Go.RowKit
def laidL : List (String × DataW Unit) := [("math/bits.deBruijn32tab", Rows.laid_math_bits_deBruijn32tab), ("math/bits.deBruijn64tab", Rows.laid_math_bits_deBruijn64tab), ("internal/strconv.uint64pow10", Rows.laid_internal_strconv_uint64pow10), ("strconv.ErrRange", Rows.laid_strconv_ErrRange), ("strconv.ErrSyntax", Rows.laid_strconv_ErrSyntax)]
theorem gPowTy : (Tryz.prog.globals[2]?).map (·.type) = some 348 := by kernel_rfl
theorem gErr : Tryz.prog.globalNamed "strconv.ErrRange" = some 1 := by kernel_rfl
theorem gErrTy : (Tryz.prog.globals[1]?).map (·.type) = some 199 := by kernel_rfl
theorem errStar : "*" ++ "errors.errorString" = "*errors.errorString" := by decide
theorem errRow (u : TypeId) (h : Tryz.prog.typeName? 3 u = some "*errors.errorString") : u = 374 :=
 typeName_ptr_named (nm := "errors.errorString") (by rw [errStar]; kernel_rfl) (by kernel_rfl) (by decide) u (by rw [errStar]; exact h)
theorem errCells : Tryz.prog.cellsOf 376 = 1 := by kernel_rfl
theorem strCells : Tryz.prog.cellsOf 9 = 1 := by kernel_rfl
theorem u64Cells : Tryz.prog.cellsOf 24 = 1 := by kernel_rfl
theorem powCells : Tryz.prog.cellsOf 348 = 20 := by kernel_rfl
theorem va_of_laid {W : World} (h : laidMet Tryz.prog laidL W) : Va W OZ := by
 have h3 : laidMet Tryz.prog (("internal/strconv.uint64pow10", Lib.tabData .u64 Lib.pow10Tab) :: [("strconv.ErrRange", Rows.laid_strconv_ErrRange), ("strconv.ErrSyntax", Rows.laid_strconv_ErrSyntax)]) W := h.tail.tail
 have ht := Lib.tabIs_of_head gPow gPowTy Tryz.underlying348 Tryz.underlying24 u64Cells powCells h3
 obtain ⟨a, s, hv, -, -, -⟩ := laid_sentinel h3.tail gErr gErrTy Tryz.underlying199 errRow Tryz.underlying374 Tryz.underlying376 rfl rfl Tryz.underlying9 errCells strCells
 have hc : W.cell? ⟨1, 0, none⟩ = some (.iface 374 (.pointer (some a))) := by simpa using World.var?_cell gErr hv 0
 have hp : ∃ v, W.cell? ⟨2, 0, none⟩ = some v := ⟨_, ht.cell gPow 0 (by decide)⟩
 obtain ⟨v, hp⟩ := hp
 exact ⟨rfl, blk_lt hc, ⟨_, _, hc⟩, rfl, blk_lt hp, ht⟩
theorem door_met (os : Os) (args : Array Value) : laidMet Tryz.prog laidL ((World.doorLaid Tryz.prog 62 os).forCall (fun _ _ => 0) ⟨#[], args, []⟩).memory :=
 laidMet_of_run' 8 (by kernel_rfl) (by kernel_rfl)
end Go.Proofs.YtifkfhnbkjkakaaGreatDoor
