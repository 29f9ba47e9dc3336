/- Contracts of layer 7's functions. -/
import Derived.Test.YtijifjiehldcaaaGreatRows
import Derived.Test.YtijifjiehldcaaaGreatEpPlain
import Derived.Test.YtijifjiehldcaaaGreatLib
namespace Go.Proofs.YtijifjiehldcaaaGreat
set_option linter.unusedSimpArgs false
open Go.RowKit
set_option linter.unusedVariables false

@[go_sem] theorem fld_ep0 (a b c : Value) (w : World) : (Instr.field 198 (.agg #[a, b, c]) 0).run Tryz.prog w = .ok a w := by kernel_rfl
@[go_sem] theorem fld_ep1 (a b c : Value) (w : World) : (Instr.field 198 (.agg #[a, b, c]) 1).run Tryz.prog w = .ok b w := by kernel_rfl
@[go_sem] theorem fld_ep2 (a b c : Value) (w : World) : (Instr.field 198 (.agg #[a, b, c]) 2).run Tryz.prog w = .ok c w := by kernel_rfl

theorem c_said (x : Int) (w : World) (x0 : 0 ≤ x) (x1 : x ≤ 18446744073709551615) :
    Calls Tryz.prog 110 #[.int .u64 x] w fun e w' => e = .returned (.agg #[.int .i64 (epNow x), .int .i64 (epAt x), .int .i64 (epGen x)]) ∧ Below w.heap.size w w' := by
  have e1 := u64_mask24 x0 (by omega)
  have e2 := u64_mask24 (x := x / 16777216) (by omega) (by omega)
  have e3 := u64_mask16 (x := x / 281474976710656) (by omega) (by omega)
  go_enter Tryz.func110, Tryz.ntmps110
  go_wp2
  exact bodyPost_ret (v := .agg #[.int .i64 (x % 16777216), .int .i64 (x / 16777216 % 16777216), .int .i64 (x / 281474976710656 % 65536)]) (by simp [results, Tryz.results110, go_sem]) rfl ⟨by unfold epNow epAt epGen; rw [show x / 281474976710656 % 65536 = x / 281474976710656 by omega], (Below.refl _ _).alloc (Nat.le_refl _) _⟩

theorem mask_int24 (n : Int) : bits .and .u64 (n % 18446744073709551616) 16777215 = n % 16777216 := by
  rw [u64_mask24 (by omega) (by omega)]; omega
theorem mask_int16 (n : Int) : bits .and .u64 (n % 18446744073709551616) 65535 = n % 65536 := by
  rw [u64_mask16 (by omega) (by omega)]; omega

theorem word_eq (n a g : Int) : bits .or .u64 (bits .or .u64 (IntKind.u64.wrap (bits .and .u64 (IntKind.u64.wrap n) 16777215)) (IntKind.u64.wrap (bits .and .u64 (IntKind.u64.wrap a) 16777215 * 16777216))) (IntKind.u64.wrap (bits .and .u64 (IntKind.u64.wrap g) 65535 * 281474976710656)) = epPut n a g := by
  simp only [IntKind.wrap_u64, mask_int24, mask_int16]
  rw [show n % 16777216 % 18446744073709551616 = n % 16777216 by omega, show a % 16777216 * 16777216 % 18446744073709551616 = a % 16777216 * 16777216 by omega, show g % 65536 * 281474976710656 % 18446744073709551616 = g % 65536 * 281474976710656 by omega]
  rw [or_parts (by omega) (by omega) (by omega) (by omega) (by omega) (by omega)]
  rfl

theorem c_word (n a g : Int) (w : World) (n0 : -9223372036854775808 ≤ n) (n1 : n ≤ 9223372036854775807) (a0 : -9223372036854775808 ≤ a) (a1 : a ≤ 9223372036854775807) (g0 : -9223372036854775808 ≤ g) (g1 : g ≤ 9223372036854775807) :
    Calls Tryz.prog 113 #[.agg #[.int .i64 n, .int .i64 a, .int .i64 g]] w fun e w' => e = .returned (.int .u64 (epPut n a g)) ∧ Below w.heap.size w w' := by
  have Ho := Lib.hid (word_eq n a g)
  go_enter Tryz.func113, Tryz.ntmps113
  go_wp2
  go_ret
  exact ⟨ret_int Ho.out, (Below.refl _ _).alloc (Nat.le_refl _) _⟩

theorem c_At (x : Int) (w : World) (x0 : 0 ≤ x) (x1 : x ≤ 18446744073709551615) :
    Calls Tryz.prog 61 #[.int .u64 x] w fun e w' => e = .returned (.int .i64 (epAt x)) ∧ Below w.heap.size w w' := by
  go_enter Tryz.func61, Tryz.ntmps61
  go_wp2_with (go_at_call 110; refine (viaC (c_said _ _ x0 x1)).mono ?_; rintro e w' ⟨rfl, m, rfl⟩)
  go_ret
  exact ⟨rfl, below_via (Below.refl _ _) _⟩

theorem c_Gen (x : Int) (w : World) (x0 : 0 ≤ x) (x1 : x ≤ 18446744073709551615) :
    Calls Tryz.prog 63 #[.int .u64 x] w fun e w' => e = .returned (.int .i64 (epGen x)) ∧ Below w.heap.size w w' := by
  go_enter Tryz.func63, Tryz.ntmps63
  go_wp2_with (go_at_call 110; refine (viaC (c_said _ _ x0 x1)).mono ?_; rintro e w' ⟨rfl, m, rfl⟩)
  go_ret
  exact ⟨rfl, below_via (Below.refl _ _) _⟩

theorem c_Put (n a g : Int) (w : World) (n0 : -9223372036854775808 ≤ n) (n1 : n ≤ 9223372036854775807) (a0 : -9223372036854775808 ≤ a) (a1 : a ≤ 9223372036854775807) (g0 : -9223372036854775808 ≤ g) (g1 : g ≤ 9223372036854775807) :
    Calls Tryz.prog 64 #[.int .i64 n, .int .i64 a, .int .i64 g] w fun e w' => e = .returned (.int .u64 (epPut n a g)) ∧ Below w.heap.size w w' := by
  go_enter Tryz.func64, Tryz.ntmps64
  go_wp2_with (go_at_call 113; refine (viaC (c_word _ _ _ _ n0 n1 a0 a1 g0 g1)).mono ?_; rintro e w' ⟨rfl, m, rfl⟩)
  go_ret
  exact ⟨rfl, below_via (Below.refl _ _) _⟩

end Go.Proofs.YtijifjiehldcaaaGreat
