/- Contracts of places' Ref and Word. -/
import Derived.Test.YtkamcgcpfnkodaaGreatProg
import Derived.Test.YtkamcgcpfnkodaaGreatPlPlain
import Derived.Test.YtkamcgcpfnkodaaGreatLib
namespace Go.Proofs.YtkamcgcpfnkodaaGreat
set_option linter.unusedSimpArgs false
open Go.RowKit
set_option linter.unusedVariables false

theorem c_Word (o n : Int) (w : World) :
    Calls Tryz.prog 28 #[.int .i64 o, .int .i64 n] w fun e w' => e = .returned (.int .u64 (plWord o n)) ∧ w = w' := by
  have h1 : 0 ≤ o % 256 ∧ o % 256 < 256 := by omega
  have h2 : 0 ≤ n % 256 ∧ n % 256 < 256 := by omega
  unfold plWord
  go_enter Tryz.func28, Tryz.ntmps28
  go_wp2
  go_ret
  exact ⟨rfl, rfl⟩

end Go.Proofs.YtkamcgcpfnkodaaGreat
