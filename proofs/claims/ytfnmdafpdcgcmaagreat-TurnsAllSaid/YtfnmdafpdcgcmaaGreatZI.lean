/- A pair of worlds: contracts of Store, Tick, Item. A pair of worlds: contracts of put and of what it calls. A pair of worlds as a law begins: contracts of Other and Begin. What a law has behind its Begin. -/
import Derived.Test.YtfnmdafpdcgcmaaGreatZF
import Derived.Test.YtfnmdafpdcgcmaaGreatZE
import Derived.Test.YtfnmdafpdcgcmaaGreatZD
namespace Go.Proofs.YtfnmdafpdcgcmaaGreat
set_option linter.unusedSimpArgs false
section
set_option linter.unusedVariables false
section
open Go.RowKit
@[go_sem] theorem fld_it0 (a b c d e f : Value) (w : World) : (Instr.field 83 (.agg #[a, b, c, d, e, f]) 0).run Tryz.prog w = .ok a w := by kernel_rfl
end
section
open Go.RowKit
def O0 : Om := fun _ => 0
def SB (t : Nat) : Prop := 1 ≤ t ∧ t ≤ 9
end
end
end Go.Proofs.YtfnmdafpdcgcmaaGreat
