/- Over any program: an argument that is a slice, opened: what its elements' cells hold. What a proof's frame wants, over any program: the arguments of a law, opened by their types (numbers, bools, strings, structs and arrays of these). An argument that is a pair's First, opened. Is a pair's First too great? -/
import Derived.Test.YthpedifjclofoaaGreatZvBaB
import Derived.Test.YthpedifjclofoaaGreatZvBaI
import Derived.Below
import Derived.ChangeOld
import Derived.Deep.Slices
import Derived.OpenShut
import Derived.ProofKit
import Derived.ShutString
import Derived.Test.YthpedifjclofoaaGreatRows
import Derived.WalkKit
namespace Go.Proofs.YthpedifjclofoaaGreat
set_option linter.unusedSimpArgs false
set_option linter.unusedVariables false
section
open Go.ChangeShapes Go.WideShapes Go.ChangeAt Go.RowKit
section
variable {P : Program} {w : World} {r : Reach} {base : Nat} {t u : TypeId} {v : Value}
theorem leaf_int {k : IntKind} (ht : P.underlying u = some (.int k)) (h : Cell.okWide P w r base u v) : ∃ n, v = .int k n ∧ k.has n := by
 simp only [Cell.okWide, ht] at h
 cases v <;> simp_all [Cell.ok]
theorem leaf_string (ht : P.underlying u = some .string) (h : Cell.okWide P w r base u v) : ∃ s, v = .string s ∧ s.size ≤ maxLen := by
 simp only [Cell.okWide, ht] at h
 cases v <;> simp_all [Cell.ok]
 unfold maxLen
 omega
theorem leaf_i64 (ht : P.underlying u = some (.int .i64)) (h : Cell.okWide P w r base u v) : ∃ n, v = .int .i64 n ∧ -9223372036854775808 ≤ n ∧ n ≤ 9223372036854775807 := leaf_int ht h
theorem cell_of_value (hn : ∀ fs, P.underlying t ≠ some (.struct fs)) (hm : ∀ n e, P.underlying t ≠ some (.array n e)) (h : Value.okWide P w r base t v) : Cell.okWide P w r base t v := by
 unfold Value.okWide at h
 split at h
 · rename_i fs e; exact absurd e (hn fs)
 · rename_i n e e'; exact absurd e' (hm n e)
 · exact h
theorem cell_of_int {k : IntKind} (ht : P.underlying t = some (.int k)) (h : Value.okWide P w r base t v) : Cell.okWide P w r base t v := cell_of_value (by simp [ht]) (by simp [ht]) h
theorem cell_of_string (ht : P.underlying t = some .string) (h : Value.okWide P w r base t v) : Cell.okWide P w r base t v := cell_of_value (by simp [ht]) (by simp [ht]) h
end
end
section
open Go.ChangeShapes Go.WideShapes Go.Deep Go.RowKit
instance : Inhabited It := ⟨⟨⟨#[]⟩, ⟨#[]⟩, 0, 0, 0, 0⟩⟩
end
end Go.Proofs.YthpedifjclofoaaGreat
