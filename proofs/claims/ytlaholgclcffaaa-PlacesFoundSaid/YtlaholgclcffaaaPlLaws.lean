/- The laws of layer 8 over numbers alone. -/
import Derived.Test.YtlaholgclcffaaaPlRef
namespace Go.Proofs.Ytlaholgclcffaaa
open Go.RowKit
set_option linter.unusedVariables false

theorem size_succ' {b : Int} (h1 : 1 ≤ b) (h2 : b ≤ 11) : fnvSize (b + 1) = 2 * fnvSize b := by
  rw [fnvSize_in (by omega) (by omega), fnvSize_in (by omega) (by omega), show (b + 1).toNat = b.toNat + 1 by omega, Int.pow_succ, Int.mul_comm]

theorem c_lives08 (w : World) :
    Calls Try.prog 33 #[] w fun e w' => e = .returned (.bool true) ∧ Below w.heap.size w w' := by
  have a1 : plOld 1284 = 4 := by decide
  have a2 : plNow 1284 = 5 := by decide
  have a3 : plOld 1540 = 4 := by decide
  have a4 : plNow 1540 = 0 := by decide
  have a5 : plOld 0 = 1 := by decide
  have a6 : plNow 0 = 0 := by decide
  have a7 : plTags 4 5 = 4264 := by decide
  have a8 : plItem 4 5 2 = 4267 := by decide
  have a9 : plRef 9 = 4294967305 := by decide
  have b1 : plSpots 4 = 64 := by decide
  have b2 : plSpots 1284 = 192 := by decide
  have b3 : plAtBits 1284 70 = 5 := by decide
  have b4 : plAtN 1284 70 = 6 := by decide
  have b5 : plMay 2 8 2 = true := by decide
  have b6 : plMay 2 8 4 = false := by decide
  go_enter Try.func33, Try.ntmps33
  go_wp2_with (first | (go_at_call 29; refine (c_As _ _ (by omega) (by omega)).mono ?_; rintro e w' ⟨rfl, rfl⟩) | (go_at_call 42; refine (viaC (c_Tags _ _ _ (by omega) (by omega) (by omega) (by omega))).mono ?_; rintro e w1 ⟨rfl, m1, rfl⟩) | (go_at_call 44; refine (viaC (c_Item _ _ _ _ (by omega) (by omega) (by omega) (by omega) (by omega) (by omega))).mono ?_; rintro e w' ⟨rfl, m2, rfl⟩) | (go_at_call 46; refine (c_Ref _ _ (by omega) (by omega)).mono ?_; rintro e w' ⟨rfl, rfl⟩) | (go_at_call 30; refine (c_Spots _ _ (by omega) (by omega)).mono ?_; rintro e w' ⟨rfl, rfl⟩) | (go_at_call 31; refine (viaC (c_At _ _ _ (by omega) (by omega) (by omega) (by omega))).mono ?_; rintro e w' ⟨rfl, m3, rfl⟩) | (go_at_call 34; refine (c_May _ _ _ _ (by omega) (by omega) (by omega) (by omega) (by omega) (by omega)).mono ?_; rintro e w' ⟨rfl, rfl⟩))
  go_ret
  exact ⟨rfl, below_via (below_via (below_via ((Below.refl _ _).alloc (Nat.le_refl _) _) _) _) _⟩

theorem w_PlacesWord (x n z0 z1 z2 : Int) (w : World) (x0 : 0 ≤ x) (x1' : x ≤ 18446744073709551615) (n0 : -9223372036854775808 ≤ n) (n1 : n ≤ 9223372036854775807) (a0 : -9223372036854775808 ≤ z0) (a1 : z0 ≤ 9223372036854775807) (b0 : -9223372036854775808 ≤ z1) (b1 : z1 ≤ 9223372036854775807) (c0 : -9223372036854775808 ≤ z2) (c1 : z2 ≤ 9223372036854775807) :
    Calls Try.prog 11 #[.int .u64 x, .int .i64 n, .agg #[.int .i64 z0, .int .i64 z1, .int .i64 z2]] w fun e w' => e = .returned (.bool true) ∧ Below w.heap.size w w' := by
  have x1 : x < 18446744073709551616 := by omega
  go_enter Try.func11, Try.ntmps11
  go_wp2_with (first | (go_at_call 29; refine (c_As _ _ x0 x1).mono ?_; rintro e w' ⟨rfl, rfl⟩) | (go_at_call 35; refine (c_rAs _ _ x0 x1).mono ?_; rintro e w' ⟨rfl, rfl⟩))
  simp only [List.append_eq, List.cons_append, List.nil_append]
  refine wp_region_via (by kernel_rfl) (by kernel_rfl) ?_
  repeat (go_big_quiet_step ((first | (go_at_call 36; exact viaS (c_Target _ _ x0 x1)) | (go_at_call 37; exact viaS (c_rTarget _ _ x0 x1)) | (go_at_call 30; exact viaS (c_Spots _ _ x0 x1)) | (go_at_call 38; exact viaS (c_rSpots _ _ x0 x1)) | (go_at_call 31; exact viaB (c_At _ _ _ x0 x1 n0 n1)) | (go_at_call 39; exact viaB (c_rAt _ _ _ x0 x1 n0 n1)) | (go_at_call 32; exact viaS (c_Word _ _ _)) | (go_at_call 40; exact viaS (c_rWord _ _ _)) | (go_at_call 34; exact viaS (c_May _ _ _ _ a0 a1 b0 b1 c0 c1)) | (go_at_call 41; exact viaS (c_rMay _ _ _ _ a0 a1 b0 b1 c0 c1)) | (go_at_call 33; exact viaB (c_lives08 _)))))
  refine wpQuiet_nil ?_
  rintro _ ⟨e, rfl⟩
  go_wp2
  go_ret
  exact ⟨rfl, below_via ((Below.refl _ _).alloc (Nat.le_refl _) _) _⟩

theorem w_PlacesAddr (b k s r : Int) (w : World) (b0 : -9223372036854775808 ≤ b) (b1 : b ≤ 9223372036854775807) (k0 : -9223372036854775808 ≤ k) (k1 : k ≤ 9223372036854775807) (s0 : -9223372036854775808 ≤ s) (s1 : s ≤ 9223372036854775807) (r0 : -9223372036854775808 ≤ r) (r1 : r ≤ 9223372036854775807) :
    Calls Try.prog 12 #[.agg #[.int .i64 b, .int .i64 k, .int .i64 s], .int .i64 r] w fun e w' => e = .returned (.bool true) ∧ Below w.heap.size w w' := by
  go_enter Try.func12, Try.ntmps12
  go_wp2
  refine wp_region_via (by kernel_rfl) (by kernel_rfl) ?_
  repeat (go_big_quiet_step ((first | (go_at_call 42; exact viaB (c_Tags _ _ _ b0 b1 k0 k1)) | (go_at_call 43; exact viaB (c_rTags _ _ _ b0 b1 k0 k1)) | (go_at_call 44; exact viaB (c_Item _ _ _ _ b0 b1 k0 k1 s0 s1)) | (go_at_call 45; exact viaB (c_rItem _ _ _ _ b0 b1 k0 k1 s0 s1)) | (go_at_call 46; exact viaS (c_Ref _ _ r0 r1)) | (go_at_call 47; exact viaS (c_rRef _ _ r0 r1)) | (go_at_call 48; exact viaB (c_Version _ _ _ b0 b1 k0 k1)) | (go_at_call 49; exact viaB (c_rVersion _ _ _ b0 b1 k0 k1)) | (go_at_call 33; exact viaB (c_lives08 _)))))
  refine wpQuiet_nil ?_
  rintro _ ⟨e, rfl⟩
  go_wp2
  go_ret
  exact ⟨rfl, below_via ((Below.refl _ _).alloc (Nat.le_refl _) _) _⟩

theorem word_small {o n : Int} (h1 : 0 ≤ o) (h2 : o ≤ 255) (h3 : 0 ≤ n) (h4 : n ≤ 255) : plWord o n = o + 256 * n := by unfold plWord; omega
theorem old_word {o n : Int} (h1 : 1 ≤ o) (h2 : o ≤ 12) (h3 : 0 ≤ n) (h4 : n ≤ 255) : plOld (plWord o n) = o := by
  unfold plOld
  rw [word_small (by omega) (by omega) h3 h4]
  rw [if_pos (by omega)]
  omega
theorem div_word {o n : Int} (h1 : 0 ≤ o) (h2 : o ≤ 255) : (o + 256 * n) / 256 = n := by omega
theorem now_word {o n : Int} (h1 : 1 ≤ o) (h2 : o ≤ 11) (h3 : n = o + 1) : plNow (plWord o n) = o + 1 := by
  unfold plNow
  rw [old_word h1 (by omega) (by omega) (by omega), word_small (by omega) (by omega) (by omega) (by omega), div_word (by omega) (by omega), if_pos (by omega)]
  omega
theorem now_word0 {o : Int} (h1 : 1 ≤ o) (h2 : o ≤ 12) : plNow (plWord o 0) = 0 := by
  unfold plNow
  rw [old_word h1 (by omega) (by omega) (by omega), word_small (by omega) (by omega) (by omega) (by omega), if_neg (by omega)]
theorem spots_word {b : Int} (h1 : 1 ≤ b) (h2 : b ≤ 11) : plSpots (plWord b (b + 1)) = 4 * (fnvSize b + fnvSize (b + 1)) := by
  unfold plSpots
  rw [old_word h1 (by omega) (by omega) (by omega), now_word h1 h2 rfl]

theorem may_less {f n b : Int} (h1 : 2 ≤ b) (h2 : b ≤ 11) (h : plMay f n b = true) : plMay f n (b - 1) = true := by
  unfold plMay at h ⊢
  rw [decide_eq_true_eq] at h ⊢
  have e1 := size_succ' (show 1 ≤ b - 1 by omega) (show b - 1 ≤ 11 by omega)
  have e2 := size_succ' (show 1 ≤ b by omega) h2
  rw [show b - 1 + 1 = b by omega] at e1 ⊢
  have := fnvSize_bd (b - 1)
  omega
end Go.Proofs.Ytlaholgclcffaaa
