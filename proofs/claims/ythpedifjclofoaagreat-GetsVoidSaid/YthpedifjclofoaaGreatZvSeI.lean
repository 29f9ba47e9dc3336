/- Layer 25: StoresVoid. -/
import Derived.Test.YthpedifjclofoaaGreatZvSeY
import Derived.BigQuiet
import Derived.Deep.QuietTactic
namespace Go.Proofs.YthpedifjclofoaaGreat
set_option linter.unusedSimpArgs false
set_option linter.unusedVariables false
open Go.RowKit
def BeginS (fv : Value) : Prop := ∀ W : World, Calls Tryz.prog 32 #[fv] W fun e w' => ∃ p q : Nat, e = .returned (.agg #[.pointer (some ⟨p, 0, none⟩), .pointer (some ⟨q, 0, none⟩)]) ∧ Below W.heap.size W w' ∧ ∀ W2, Below w'.heap.size w' W2 → Calls Tryz.prog 38 #[.agg #[.pointer (some ⟨p, 0, none⟩), .pointer (some ⟨q, 0, none⟩)]] W2 fun e w3 => e = .returned (.bool true) ∧ Below W2.heap.size W2 w3
end Go.Proofs.YthpedifjclofoaaGreat
