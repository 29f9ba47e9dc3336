/- Over any program: an argument that is a slice, opened: what its elements' cells hold. What a proof's frame wants, over any program: the arguments of a law, opened by their types (numbers, bools, strings, structs and arrays of these). An argument that is a pair's First, opened. Is a pair's First too great? -/
import Derived.Test.YtifkfhnbkjkakaaGreatDoorZcBaB
import Derived.Test.YtifkfhnbkjkakaaGreatDoorZcBaI
import Derived.Below
import Derived.ChangeOld
import Derived.Deep.Slices
import Derived.OpenShut
import Derived.ProofKit
import Derived.ShutString
import Derived.Test.YtifkfhnbkjkakaaGreatDoorRows
import Derived.WalkKit
namespace Go.Proofs.YtifkfhnbkjkakaaGreatDoor
set_option linter.unusedSimpArgs false
set_option linter.unusedVariables false
section
open Go.ChangeShapes Go.WideShapes Go.ChangeAt Go.RowKit
section
variable {P : Program} {w : World} {r : Reach} {base : Nat} {t u : TypeId} {v : Value}
theorem leaf_int {k : IntKind} (ht : P.underlying u = some (.int k)) (h : Cell.okWide P w r base u v) : ∃ n, v = .int k n ∧ k.has n := by
 simp only [Cell.okWide, ht] at h
 cases v <;> simp_all [Cell.ok]
theorem leaf_string (ht : P.underlying u = some .string) (h : Cell.okWide P w r base u v) : ∃ s, v = .string s ∧ s.size ≤ maxLen := by
 simp only [Cell.okWide, ht] at h
 cases v <;> simp_all [Cell.ok]
 unfold maxLen
 omega
theorem leaf_i64 (ht : P.underlying u = some (.int .i64)) (h : Cell.okWide P w r base u v) : ∃ n, v = .int .i64 n ∧ -9223372036854775808 ≤ n ∧ n ≤ 9223372036854775807 := leaf_int ht h
theorem leaf_u64 (ht : P.underlying u = some (.int .u64)) (h : Cell.okWide P w r base u v) : ∃ n, v = .int .u64 n ∧ 0 ≤ n ∧ n ≤ 18446744073709551615 := leaf_int ht h
theorem leaf_u8 (ht : P.underlying u = some (.int .u8)) (h : Cell.okWide P w r base u v) : ∃ n, v = .int .u8 n ∧ 0 ≤ n ∧ n ≤ 255 := leaf_int ht h
theorem leaf_u32 (ht : P.underlying u = some (.int .u32)) (h : Cell.okWide P w r base u v) : ∃ n, v = .int .u32 n ∧ 0 ≤ n ∧ n ≤ 4294967295 := leaf_int ht h
theorem cell_of_value (hn : ∀ fs, P.underlying t ≠ some (.struct fs)) (hm : ∀ n e, P.underlying t ≠ some (.array n e)) (h : Value.okWide P w r base t v) : Cell.okWide P w r base t v := by
 unfold Value.okWide at h
 split at h
 · rename_i fs e; exact absurd e (hn fs)
 · rename_i n e e'; exact absurd e' (hm n e)
 · exact h
theorem cell_of_int {k : IntKind} (ht : P.underlying t = some (.int k)) (h : Value.okWide P w r base t v) : Cell.okWide P w r base t v := cell_of_value (by simp [ht]) (by simp [ht]) h
theorem cell_of_string (ht : P.underlying t = some .string) (h : Value.okWide P w r base t v) : Cell.okWide P w r base t v := cell_of_value (by simp [ht]) (by simp [ht]) h
theorem open_row {ts : List TypeId} {cs : Array Value} (hts : P.cellTypes P.depth t = some ts) (hn : P.cellsOf t = ts.length) (hl : cs.size = P.cellsOf t) (h : Row.okWide P w r base t cs) :
 ∃ l : List Value, Value.agg cs = .agg l.toArray ∧ l.length = ts.length ∧ ∀ (i : Nat) (u : TypeId), ts[i]? = some u → ∃ x, l[i]? = some x ∧ Cell.okWide P w r base u x := by
 obtain ⟨ts', h1, _, h3⟩ := h
 rw [hts] at h1
 cases h1
 refine ⟨cs.toList, rfl, by simpa [hn] using hl, fun i u hu => ?_⟩
 have hi : i < ts.length := by
  rcases Nat.lt_or_ge i ts.length with h | h
  · exact h
  · rw [List.getElem?_eq_none h] at hu; cases hu
 have hi' : i < cs.size := by omega
 obtain ⟨u', hu', hc⟩ := h3 i cs[i] (by simp [hi'])
 rw [Nat.mod_eq_of_lt hi, hu] at hu'
 cases hu'
 exact ⟨cs[i], by simp [hi'], hc⟩
theorem open_struct {fs : Array Field} {ts : List TypeId} (ht : P.underlying t = some (.struct fs)) (hts : P.cellTypes P.depth t = some ts) (hn : P.cellsOf t = ts.length) (h : Value.okWide P w r base t v) :
 ∃ l : List Value, v = .agg l.toArray ∧ l.length = ts.length ∧ ∀ (i : Nat) (u : TypeId), ts[i]? = some u → ∃ x, l[i]? = some x ∧ Cell.okWide P w r base u x := by
 simp only [Value.okWide, ht] at h
 obtain ⟨cs, rfl, hl, hr⟩ := h
 exact open_row hts hn hl hr
end
theorem list_of {α : Type} {l m : List α} (hl : l.length = m.length) (h : ∀ i, i < m.length → l[i]? = m[i]?) : l = m := by
 refine List.ext_getElem? fun i => ?_
 rcases Nat.lt_or_ge i m.length with hi | hi
 · exact h i hi
 · rw [List.getElem?_eq_none hi, List.getElem?_eq_none (by omega)]
end
section
open Go.ChangeShapes Go.WideShapes Go.Deep Go.RowKit
instance : Inhabited It := ⟨⟨⟨#[]⟩, ⟨#[]⟩, 0, 0, 0, 0⟩⟩
end
end Go.Proofs.YtifkfhnbkjkakaaGreatDoor
