/- Contracts of places' Ref and Word. -/
import Derived.Test.YtijifjiehldcaaaGreatProg
import Derived.Test.YtijifjiehldcaaaGreatPlPlain
import Derived.Test.YtijifjiehldcaaaGreatLib
namespace Go.Proofs.YtijifjiehldcaaaGreat
set_option linter.unusedSimpArgs false
open Go.RowKit
set_option linter.unusedVariables false

theorem c_Word (o n : Int) (w : World) :
    Calls Tryz.prog 86 #[.int .i64 o, .int .i64 n] w fun e w' => e = .returned (.int .u64 (plWord o n)) ∧ w = w' := by
  have h1 : 0 ≤ o % 256 ∧ o % 256 < 256 := by omega
  have h2 : 0 ≤ n % 256 ∧ n % 256 < 256 := by omega
  unfold plWord
  go_enter Tryz.func86, Tryz.ntmps86
  go_wp2
  go_ret
  exact ⟨rfl, rfl⟩

theorem c_Ref (r : Int) (w : World) (r0 : -9223372036854775808 ≤ r) (r1 : r ≤ 9223372036854775807) :
    Calls Tryz.prog 33 #[.int .i64 r] w fun e w' => e = .returned (.int .u64 (plRef r)) ∧ w = w' := by
  by_cases c : r < 1
  · have Hm := Lib.hid (show plRef r = 0 by unfold plRef; rw [if_pos c])
    rw [Hm.out]
    go_enter Tryz.func33, Tryz.ntmps33
    go_wp2
    go_ret
    exact ⟨rfl, rfl⟩
  · have Hm := Lib.hid (show plRef r = 4294967296 + r by unfold plRef; rw [if_neg c])
    rw [Hm.out]
    go_enter Tryz.func33, Tryz.ntmps33
    go_wp2
    go_ret
    exact ⟨rfl, rfl⟩

/-! ### the words' addresses: structs by value -/
end Go.Proofs.YtijifjiehldcaaaGreat
