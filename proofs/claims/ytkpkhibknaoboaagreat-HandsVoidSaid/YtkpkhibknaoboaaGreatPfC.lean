/- What a great seat's rows ask of the program alone, each apart (together they outgrow the kernel's lid). -/
import Derived.Test.YtkpkhibknaoboaaGreatRows
import Derived.Test.YtkpkhibknaoboaaGreatFrame
namespace Go.Proofs.YtkpkhibknaoboaaGreat
set_option linter.unusedVariables false
set_option linter.unusedSimpArgs false
open Go.ChangeShapes Go.WideShapes Go.ChangeAt Go.RowKit

theorem pf_lift : (Rows.handsPlayRow.lifted == Tryz.pinned.checked.prog.liftsFinal) = true := by kernel_rfl
theorem pf_make : (Tryz.pinned.checked.prog.make == some Rows.handsPlayRow.make) = true := by kernel_rfl
theorem pf_keys : (Rows.handsPlayRow.plainKeys == Tryz.pinned.checked.prog.plainKeys) = true := by kernel_rfl
end Go.Proofs.YtkpkhibknaoboaaGreat
