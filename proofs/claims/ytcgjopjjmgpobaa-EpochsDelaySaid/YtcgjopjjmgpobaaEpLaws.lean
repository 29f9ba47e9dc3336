/- The laws of layer 7 that ask the document's answer, and the way back. -/
import Derived.Test.YtcgjopjjmgpobaaEpTick
import Derived.Test.YtcgjopjjmgpobaaEpAlive
import Derived.Test.YtcgjopjjmgpobaaEpRef
namespace Go.Proofs.Ytcgjopjjmgpobaa
open Go.RowKit
set_option linter.unusedVariables false

/-- So many ticks later. -/
def epLater : Nat → Int → Int
  | 0, x => x
  | n + 1, x => epLater n (epTick x)
theorem epLater_bd (n : Nat) {x : Int} (h0 : 0 ≤ x) (h1 : x ≤ 18446744073709551615) : 0 ≤ epLater n x ∧ epLater n x ≤ 18446744073709551615 := by
  induction n generalizing x with
  | zero => exact ⟨h0, h1⟩
  | succ n ih => exact ih (epTick_bd x).1 (epTick_bd x).2
theorem epLater_snoc (n : Nat) (x : Int) : epLater (n + 1) x = epTick (epLater n x) := by
  induction n generalizing x with
  | zero => rfl
  | succ n ih => exact ih (epTick x)

theorem c_later (x : Int) (n : Nat) (w : World) (x0 : 0 ≤ x) (x1 : x ≤ 18446744073709551615) (hn : n ≤ 1000000) :
    Calls Try.prog 33 #[.int .u64 x, .int .i64 n] w fun e w' => e = .returned (.int .u64 (epLater n x)) ∧ Below w.heap.size w w' := by
  go_enter Try.func33, Try.ntmps33
  go_wp2
  go_loopw [0, 5] (fun v i wr => ∃ k : Nat, k ≤ n ∧ i = .int .i64 k ∧ v = .int .u64 (epLater k x) ∧ Below w.heap.size w wr) (fun _ i _ => n - (intOf i).toNat)
  case atStart => exact ⟨0, Nat.zero_le _, rfl, rfl, Below.refl _ _⟩
  case round =>
    obtain ⟨k, hk, rfl, rfl, hB⟩ := hrel
    have hb := epLater_bd k x0 x1
    by_cases hlt : k < n
    · have Hs := Lib.hid (epLater_snoc k x)
      go_wp2_with (go_at_call 25; refine (viaC (c_Tick _ _ hb.1 hb.2)).mono ?_; rintro e w' ⟨rfl, m, rfl⟩)
      go_roundw
      case rel => exact ⟨k + 1, by omega, by go_num, by rw [Hs.out], below_via hB _⟩
      case measure => simp [intOf]; omega
    · obtain rfl : k = n := by omega
      go_wp2
      go_ret
      exact ⟨rfl, hB⟩

theorem c_later' (x n : Int) (w : World) (x0 : 0 ≤ x) (x1 : x ≤ 18446744073709551615) (n0 : 0 ≤ n) (hn : n ≤ 1000000) :
    Calls Try.prog 33 #[.int .u64 x, .int .i64 n] w fun e w' => e = .returned (.int .u64 (epLater n.toNat x)) ∧ Below w.heap.size w w' := by
  have h := c_later x n.toNat w x0 x1 (by omega)
  rwa [Int.toNat_of_nonneg n0] at h

theorem c_lives07 (w : World) :
    Calls Try.prog 27 #[] w fun e w' => e = .returned (.bool true) ∧ Below w.heap.size w w' := by
  have a1 : epFlush 5 0 = 281474976710661 := by decide
  have a2 : epFlushOk 5 = true := by decide
  have a3 : epFlush 5 3 = 134217733 := by decide
  have a4 : epLater 3 134217733 = 281474976710664 := by decide
  have a5 : epPut 5 0 0 = 5 := by decide
  have a6 : epTick 5 = 6 := by decide
  have a7 : epGen 281474976710661 = 1 := by decide
  have a8 : epAt 134217733 = 8 := by decide
  have a9 : epNow 281474976710664 = 8 := by decide
  have b1 : epAt 281474976710664 = 0 := by decide
  have b2 : epGen 281474976710664 = 1 := by decide
  have b3 : epDies 5 0 = -1 := by decide
  have b4 : epDies 5 (-1) = 5 := by decide
  have b5 : epDies 5 10 = 15 := by decide
  have b6 : epDies 5 2592001 = 2592001 := by decide
  have b7 : epAlive 9 0 8 = true := by decide
  have b8 : epAlive 9 0 9 = false := by decide
  have b9 : epPut 8 0 1 = 281474976710664 := by decide
  have c1 : epAlive 9 0 281474976710664 = false := by decide
  go_enter Try.func27, Try.ntmps27
  go_wp2_with (first | (go_at_call 15; refine (viaC (c_Flush _ _ _ (by omega) (by omega) (by omega) (by omega))).mono ?_; rintro e w' ⟨rfl, m, rfl⟩) | (go_at_call 33; refine (viaC (c_later' _ _ _ (by omega) (by omega) (by omega) (by omega))).mono ?_; rintro e w' ⟨rfl, m, rfl⟩) | (go_at_call 23; refine (viaC (c_Put _ _ _ _ (by omega) (by omega) (by omega) (by omega) (by omega) (by omega))).mono ?_; rintro e w' ⟨rfl, m, rfl⟩) | (go_at_call 25; refine (viaC (c_Tick _ _ (by omega) (by omega))).mono ?_; rintro e w' ⟨rfl, m, rfl⟩) | (go_at_call 21; refine (viaC (c_Gen _ _ (by omega) (by omega))).mono ?_; rintro e w' ⟨rfl, m, rfl⟩) | (go_at_call 19; refine (viaC (c_At _ _ (by omega) (by omega))).mono ?_; rintro e w' ⟨rfl, m, rfl⟩) | (go_at_call 17; refine (viaC (c_Now _ _ (by omega) (by omega))).mono ?_; rintro e w' ⟨rfl, m, rfl⟩) | (go_at_call 30; refine (viaC (c_Dies _ _ _ (by omega) (by omega) (by omega) (by omega))).mono ?_; rintro e w' ⟨rfl, m, rfl⟩) | (go_at_call 28; refine (viaC (c_Alive _ _ _ _ _ _ _ _ (by omega) (by omega))).mono ?_; rintro e w' ⟨rfl, m, rfl⟩))
  simp only [List.append_eq, List.cons_append, List.nil_append]
  refine wp_region_via (by kernel_rfl) (by kernel_rfl) ?_
  repeat (go_big_quiet_step ((first | (go_at_call 23; exact viaB (c_Put _ _ _ _ (by omega) (by omega) (by omega) (by omega) (by omega) (by omega))) | (go_at_call 25; exact viaB (c_Tick _ _ (by omega) (by omega))) | (go_at_call 21; exact viaB (c_Gen _ _ (by omega) (by omega))) | (go_at_call 19; exact viaB (c_At _ _ (by omega) (by omega))) | (go_at_call 17; exact viaB (c_Now _ _ (by omega) (by omega))) | (go_at_call 30; exact viaB (c_Dies _ _ _ (by omega) (by omega) (by omega) (by omega))) | (go_at_call 28; exact viaB (c_Alive _ _ _ _ _ _ _ _ (by omega) (by omega))))))
  refine wpQuiet_nil ?_
  rintro _ ⟨e, rfl⟩
  go_wp2
  go_ret
  exact ⟨rfl, by repeat (first | exact Below.refl _ _ | (refine below_via ?_ _) | (refine below_alloc ?_ _))⟩

theorem w_EpochsBack (x : Int) (w : World) (x0 : 0 ≤ x) (x1 : x ≤ 18446744073709551615) :
    Calls Try.prog 5 #[.int .u64 x] w fun e w' => e = .returned (.bool true) ∧ Below w.heap.size w w' := by
  have hn := epNow_bd x
  have ha := epAt_bd x
  have hg := epGen_bd x0 x1
  have hb := epPut_back x0 x1
  go_enter Try.func5, Try.ntmps5
  go_wp2_with (first | (go_at_call 23; refine (viaC (c_Put _ _ _ _ (by omega) (by omega) (by omega) (by omega) (by omega) (by omega))).mono ?_; rintro e w' ⟨rfl, m, rfl⟩) | (go_at_call 21; refine (viaC (c_Gen _ _ (by omega) (by omega))).mono ?_; rintro e w' ⟨rfl, m, rfl⟩) | (go_at_call 19; refine (viaC (c_At _ _ (by omega) (by omega))).mono ?_; rintro e w' ⟨rfl, m, rfl⟩) | (go_at_call 17; refine (viaC (c_Now _ _ (by omega) (by omega))).mono ?_; rintro e w' ⟨rfl, m, rfl⟩) | (go_at_call 27; refine (viaC (c_lives07 _)).mono ?_; rintro e w' ⟨rfl, m, rfl⟩))
  go_ret
  exact ⟨rfl, by repeat (first | exact Below.refl _ _ | (refine below_via ?_ _) | (refine below_alloc ?_ _))⟩

theorem w_EpochsAlive (key val : ByteArray) (flags id dies gen x t : Int) (w : World) (_ : key.size ≤ maxLen) (_ : val.size ≤ maxLen) (f0 : 0 ≤ flags) (f1 : flags ≤ 4294967295) (i0 : 0 ≤ id) (i1 : id ≤ 18446744073709551615) (d0 : -9223372036854775808 ≤ dies) (d1 : dies ≤ 9223372036854775807) (g0 : -9223372036854775808 ≤ gen) (g1 : gen ≤ 9223372036854775807) (x0 : 0 ≤ x) (x1 : x ≤ 18446744073709551615) (t0 : -9223372036854775808 ≤ t) (t1 : t ≤ 9223372036854775807) :
    Calls Try.prog 4 #[.agg #[.string key, .string val, .int .u32 flags, .int .u64 id, .int .i64 dies, .int .i64 gen], .int .u64 x, .int .i64 t] w fun e w' => e = .returned (.bool true) ∧ Below w.heap.size w w' := by
  go_enter Try.func4, Try.ntmps4
  go_wp2
  refine wp_region_via (by kernel_rfl) (by kernel_rfl) ?_
  repeat (go_big_quiet_step ((first | (go_at_call 28; exact viaB (c_Alive _ _ _ _ _ _ _ _ x0 x1)) | (go_at_call 29; exact viaB (c_rAlive _ _ _ _ _ _ _ _ x0 x1)) | (go_at_call 30; exact viaB (c_Dies _ _ _ x0 x1 t0 t1)) | (go_at_call 31; exact viaS (c_rDies _ _ _ x0 x1 t0 t1)) | (go_at_call 27; exact viaB (c_lives07 _)))))
  refine wpQuiet_nil ?_
  rintro _ ⟨e, rfl⟩
  go_wp2
  go_ret
  exact ⟨rfl, below_via ((Below.refl _ _).alloc (Nat.le_refl _) _) _⟩

theorem w_EpochsWord (x d z0 z1 z2 : Int) (w : World) (x0 : 0 ≤ x) (x1 : x ≤ 18446744073709551615) (d0 : -9223372036854775808 ≤ d) (d1 : d ≤ 9223372036854775807) (a0 : -9223372036854775808 ≤ z0) (a1 : z0 ≤ 9223372036854775807) (b0 : -9223372036854775808 ≤ z1) (b1 : z1 ≤ 9223372036854775807) (c0 : -9223372036854775808 ≤ z2) (c1 : z2 ≤ 9223372036854775807) :
    Calls Try.prog 3 #[.int .u64 x, .int .i64 d, .agg #[.int .i64 z0, .int .i64 z1, .int .i64 z2]] w fun e w' => e = .returned (.bool true) ∧ Below w.heap.size w w' := by
  go_enter Try.func3, Try.ntmps3
  go_wp2_with (first | (go_at_call 15; refine (viaC (c_Flush _ _ _ x0 x1 d0 d1)).mono ?_; rintro e w' ⟨rfl, m, rfl⟩) | (go_at_call 16; refine (c_rFlush _ _ _ x0 x1 d0 d1).mono ?_; rintro e w' ⟨rfl, rfl⟩))
  try simp only [List.append_eq, List.cons_append, List.nil_append]
  refine wp_region_via (by kernel_rfl) (by kernel_rfl) ?_
  repeat (go_big_quiet_step ((first | (go_at_call 17; exact viaB (c_Now _ _ x0 x1)) | (go_at_call 18; exact viaS (c_rNow _ _ x0 x1)) | (go_at_call 19; exact viaB (c_At _ _ x0 x1)) | (go_at_call 20; exact viaS (c_rAt _ _ x0 x1)) | (go_at_call 21; exact viaB (c_Gen _ _ x0 x1)) | (go_at_call 22; exact viaS (c_rGen _ _ x0 x1)) | (go_at_call 23; exact viaB (c_Put _ _ _ _ a0 a1 b0 b1 c0 c1)) | (go_at_call 24; exact viaS (c_rPut _ _ _ _ a0 a1 b0 b1 c0 c1)) | (go_at_call 25; exact viaB (c_Tick _ _ x0 x1)) | (go_at_call 26; exact viaS (c_rTick _ _ x0 x1)) | (go_at_call 27; exact viaB (c_lives07 _)))))
  refine wpQuiet_nil ?_
  rintro _ ⟨e, rfl⟩
  go_wp2
  go_ret
  exact ⟨rfl, below_via (below_via ((Below.refl _ _).alloc (Nat.le_refl _) _) _) _⟩
end Go.Proofs.Ytcgjopjjmgpobaa
