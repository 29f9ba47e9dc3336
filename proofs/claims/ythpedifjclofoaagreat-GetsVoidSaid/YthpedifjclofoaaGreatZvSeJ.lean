/- Layer 25: StoresVoid. -/
import Derived.Test.YthpedifjclofoaaGreatZvSeI
import Derived.Test.YthpedifjclofoaaGreatZvBaK
import Derived.Test.YthpedifjclofoaaGreatZvBaJ
namespace Go.Proofs.YthpedifjclofoaaGreat
set_option linter.unusedSimpArgs false
set_option linter.unusedVariables false
open Go.RowKit Go.Shelf
def fst0w : Fst := ⟨⟨0, 0, 0, 0, 0⟩, false, [], [], [], 0⟩
theorem fst0w_in (w : World) : FstIn w fst0w (.slice none 0 0) (.slice none 0 0) (.slice none 0 0) where
 it := Arr.nil _ _
 pu := Arr.nil _ _
 st := Arr.nil _ _
 it1 := by decide
 pu1 := by decide
 st1 := by decide
 key := by intro x hx; cases hx
 pub := by intro x hx; cases hx
 stb := by intro x hx; cases hx
 ti0 := by decide
 ti1 := by decide
theorem begin0 : BeginS (.agg #[.int .i64 0, .int .i64 0, .int .i64 0, .int .i64 0, .int .i64 0, .bool false, .slice none 0 0, .slice none 0 0, .slice none 0 0, .int .i64 0]) := by
 intro W
 have hB := c_Begin fst0w _ _ _ W (fst0w_in W)
 unfold fstV fst0w at hB
 dsimp only at hB
 refine hB.mono ?_
 rintro e w1 ⟨B, C, rfl, G, e1, s, m, pr, n0, n1, m1, hit, hnt⟩
 refine ⟨B.p, C.p, rfl, e1.wr.below (fun k _ hk => absurd rfl hk.2) (Nat.le_refl _), fun W2 hb => ?_⟩
 exact c_PSameAll (pr.below e1.hi hb) (fun j hj => Nat.lt_of_lt_of_le (e1.hi j hj) hb.size) (by omega) hnt (by rw [hit]; decide)
end Go.Proofs.YthpedifjclofoaaGreat
