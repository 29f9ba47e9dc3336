/- Layer 25: StoresVoid. Layer 26: ChangesVoid. -/
import Derived.Test.YtifkfhnbkjkakaaGreatDoorZcSI
import Derived.Test.YtifkfhnbkjkakaaGreatDoorZcBaK
import Derived.Test.YtifkfhnbkjkakaaGreatDoorZcBaJ
namespace Go.Proofs.YtifkfhnbkjkakaaGreatDoor
set_option linter.unusedSimpArgs false
set_option linter.unusedVariables false
section
open Go.RowKit Go.Shelf
def fst0w : Fst := ⟨⟨0, 0, 0, 0, 0⟩, false, [], [], [], 0⟩
theorem fst0w_in (w : World) : FstIn w fst0w (.slice none 0 0) (.slice none 0 0) (.slice none 0 0) where
 it := Arr.nil _ _
 pu := Arr.nil _ _
 st := Arr.nil _ _
 it1 := by decide
 pu1 := by decide
 st1 := by decide
 key := by intro x hx; cases hx
 pub := by intro x hx; cases hx
 stb := by intro x hx; cases hx
 ti0 := by decide
 ti1 := by decide
theorem begin0 : BeginS (.agg #[.int .i64 0, .int .i64 0, .int .i64 0, .int .i64 0, .int .i64 0, .bool false, .slice none 0 0, .slice none 0 0, .slice none 0 0, .int .i64 0]) := by
 intro W
 have hB := c_Begin fst0w _ _ _ W (fst0w_in W)
 unfold fstV fst0w at hB
 dsimp only at hB
 refine hB.mono ?_
 rintro e w1 ⟨B, C, rfl, G, e1, s, m, pr, n0, n1, m1, hit, hnt⟩
 refine ⟨B.p, C.p, rfl, e1.wr.below (fun k _ hk => absurd rfl hk.2) (Nat.le_refl _), fun W2 hb => ?_⟩
 exact c_PSameAll (pr.below e1.hi hb) (fun j hj => Nat.lt_of_lt_of_le (e1.hi j hj) hb.size) (by omega) hnt (by rw [hit]; decide)
end
section
open Go.RowKit
theorem w_ChangesVoid (t verb : Int) (key val : ByteArray) (fl exp id by_ : Int) (w : World) (hV : Va w OZ) (t0 : -9223372036854775808 ≤ t) (t1 : t ≤ 9223372036854775807) (a0 : 0 ≤ verb) (a1 : verb ≤ 255) (hkz : key.size ≤ maxLen) (hvz : val.size ≤ maxLen) (f0 : 0 ≤ fl) (f1 : fl ≤ 4294967295) (x0 : -9223372036854775808 ≤ exp) (x1 : exp ≤ 9223372036854775807) (i0 : 0 ≤ id) (i1 : id ≤ 18446744073709551615) (b0 : 0 ≤ by_) (b1 : by_ ≤ 18446744073709551615) :
 Calls Tryz.prog 5 #[.int .i64 t, .agg #[.int .u8 verb, .string key, .string val, .int .u32 fl, .int .i64 exp, .int .u64 id, .int .u64 by_]] w fun e w' => e = .returned (.bool true) ∧ Below w.heap.size w w' :=
 w_ChangesVoidB begin0 t verb key val fl exp id by_ w hV t0 t1 hkz
end
end Go.Proofs.YtifkfhnbkjkakaaGreatDoor
