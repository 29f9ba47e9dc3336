/- What a great seat's rows ask of the program alone, each apart (together they outgrow the kernel's lid). -/
import Derived.Test.YtifkfhnbkjkakaaGreatDoorRows
import Derived.Deep.Slices
import Derived.WalkKit
import Derived.ProofKit
import Derived.OpenShut
import Derived.ShutString
import Derived.ChangeOld
import Derived.Below
namespace Go.Proofs.YtifkfhnbkjkakaaGreatDoor
set_option linter.unusedVariables false
set_option linter.unusedSimpArgs false
open Go.ChangeShapes Go.WideShapes Go.ChangeAt Go.RowKit

theorem pf_enter : Tryz.pinned.checked.prog.mayEnter = true := by kernel_rfl
end Go.Proofs.YtifkfhnbkjkakaaGreatDoor
