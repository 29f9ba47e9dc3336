/- What a great seat's rows ask of the program alone, each apart. -/
import Derived.Test.YthbodknlhkapdaaGreatRows
import Derived.Test.YthbodknlhkapdaaGreatBaK
namespace Go.Proofs.YthbodknlhkapdaaGreat
set_option linter.unusedVariables false
set_option linter.unusedSimpArgs false
open Go.ChangeShapes Go.WideShapes Go.ChangeAt Go.RowKit
theorem pf_laid : laidOutB Tryz.pinned.checked.prog = true := by kernel_rfl
theorem pf_maps : mapsRowed Tryz.pinned.checked.prog = true := by kernel_rfl
theorem pf_heard : Tryz.pinned.checked.prog.stopsHeard = true := by kernel_rfl
theorem pf_enter : Tryz.pinned.checked.prog.mayEnter = true := by kernel_rfl
end Go.Proofs.YthbodknlhkapdaaGreat
