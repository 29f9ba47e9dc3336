/- Layer 28: GetsVoid. -/
import Derived.Test.YthpedifjclofoaaGreatZvGt6
import Derived.Test.YthpedifjclofoaaGreatZvSeJ
namespace Go.Proofs.YthpedifjclofoaaGreat
set_option linter.unusedSimpArgs false
set_option linter.unusedVariables false
open Go.RowKit
theorem w_GetsVoid (t : Int) (key : ByteArray) (w : World) (t0 : -9223372036854775808 ≤ t) (t1 : t ≤ 9223372036854775807) (hkz : key.size ≤ maxLen) :
 Calls Tryz.prog 7 #[.int .i64 t, .string key] w fun e w' => e = .returned (.bool true) ∧ Below w.heap.size w w' :=
 w_GetsVoidB begin0 t key w t0 t1 hkz
end Go.Proofs.YthpedifjclofoaaGreat
