/- Layer 6: what At tells. -/
import Derived.Test.YtifkfhnbkjkakaaGreatDoorZcBaG
namespace Go.Proofs.YtifkfhnbkjkakaaGreatDoor
set_option linter.unusedSimpArgs false
set_option linter.unusedVariables false
open Go.RowKit
section
variable {w : World} {O : Om}
theorem c_IAtB (r : Int) {ip : Nat} {l : List It} (h : Ar w O 3 ip l) (hl : l.length ≤ 1000000) :
 Calls Tryz.prog 35 #[.pointer (some ⟨ip, 0, none⟩), .int .i64 r] w fun e w' => e = .returned (.tuple #[.agg #[.string (itAt l r).key, .string (itAt l r).val, .int .u32 (itAt l r).fl, .int .u64 (itAt l r).id, .int .i64 (itAt l r).dies, .int .i64 (itAt l r).gen], .bool (itIs l r)]) ∧ Below w.heap.size w w' := by
 by_cases hr : 1 ≤ r ∧ r ≤ l.length
 · have hi : (r - 1).toNat < l.length := by omega
   have e1 : l[(r - 1).toNat]? = some (itAt l r) := by unfold itAt; rw [if_pos hr, List.getElem?_eq_getElem hi]; rfl
   have e2 : itIs l r = true := decide_eq_true hr
   rw [e2]
   exact c_IAt_yes r _ _ h hl e1 (by omega)
 · have e1 : itAt l r = it0 := by unfold itAt; rw [if_neg hr]
   have e2 : itIs l r = false := decide_eq_false hr
   rw [e1, e2]
   exact c_IAt_no r h hl hr
end
end Go.Proofs.YtifkfhnbkjkakaaGreatDoor
