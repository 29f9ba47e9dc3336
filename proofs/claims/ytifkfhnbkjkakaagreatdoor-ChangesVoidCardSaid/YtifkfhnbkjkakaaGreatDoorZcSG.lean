/- Layer 25, plain: what a Store's steps want stays so, in a world of one table with room. Layer 26, plain: what a Change's steps want stays so, in a world of one table. -/
import Derived.Test.YtifkfhnbkjkakaaGreatDoorZcSF
import Derived.Test.YtifkfhnbkjkakaaGreatDoorZcSeY
namespace Go.Proofs.YtifkfhnbkjkakaaGreatDoor
set_option linter.unusedSimpArgs false
set_option linter.unusedVariables false
section
structure FdI (z : Fdm) : Prop where
 all : ∀ x ∈ z.left, flB x = true
 sh : z.left = [.tb] ∨ ∀ x ∈ z.left, notTb x = true
 w : flW z.left ≤ 24
 ref : z.ref = 0
end
section
def chPre (c : Clm) (s : AW) (z : Chm) : Bool := decide (s.it.length ≤ 1000000) && match z.ln with
 | 1 => decide (z.tk.ln = 1 ∨ z.tk.ln = 2)
 | 2 => decide (plNow (s.M 2) = 0)
 | 3 => fdB z.fd && (!z.fd.left.isEmpty && ((decide ((fdStep c.key (s, z.fd)).2.ref = 0) || (spB (fdStep c.key (s, z.fd)).2.p && decide (1 ≤ (fdStep c.key (s, z.fd)).2.ref ∧ (fdStep c.key (s, z.fd)).2.ref ≤ 1000000)))))
 | 4 => mlB z.ml
 | 5 => decide (1 ≤ z.ref ∧ z.ref ≤ s.it.length) && (spB z.p && decide (s.it.length < 1000000))
 | 6 => spB z.p && decide (z.o.ln < 3 ∧ 0 ≤ z.o.w ∧ z.o.w < 18446744073709551616)
 | 7 => spB z.p
 | 8 => mlB z.ml
 | 11 => spB z.p && decide (0 ≤ z.ref ∧ z.ref ≤ 9223372036854775807)
 | 12 => decide (s.it.length < 1000000)
 | _ => true
def ChIL (s : AW) (z : Chm) : Nat → Prop
 | 0 => True
 | 1 => s.it.length < 1000000 ∧ (z.tk.ln = 1 ∨ z.tk.ln = 2)
 | 2 => s.it.length < 1000000
 | 3 => s.it.length < 1000000 ∧ FdI z.fd ∧ z.fd.left ≠ []
 | 4 => s.it.length < 1000000 ∧ z.ml = stVer z.p ∧ spB z.p = true ∧ 1 ≤ z.ref ∧ z.ref ≤ s.it.length
 | 5 => s.it.length < 1000000 ∧ spB z.p = true ∧ 1 ≤ z.ref ∧ z.ref ≤ s.it.length
 | 6 => spB z.p = true ∧ (z.o.ln = 0 ∨ z.o.ln = 1 ∨ z.o.ln = 2) ∧ (0 ≤ z.o.w ∧ z.o.w < 18446744073709551616)
 | 7 => spB z.p = true
 | 8 => z.ml = stVer z.p ∧ spB z.p = true
 | 9 => True
 | 10 => True
 | 11 => spB z.p = true ∧ 0 ≤ z.ref ∧ z.ref ≤ 9223372036854775807
 | 12 => s.it.length < 1000000 ∧ spB z.p = true
 | _ => True
structure ChI (c : Clm) (b : Int) (s : AW) (z : Chm) : Prop where
 bd : Bd s.M
 il : s.it.length ≤ 1000000
 b0 : 1 ≤ b
 b1 : b ≤ 11
 wd : s.M 2 = b
 l : ChIL s z z.ln
end
end Go.Proofs.YtifkfhnbkjkakaaGreatDoor
