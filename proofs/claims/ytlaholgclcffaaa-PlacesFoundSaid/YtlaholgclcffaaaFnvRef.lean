/- Contracts of the document's functions of layer 1. -/
import Derived.Test.YtlaholgclcffaaaFnvWalks
namespace Go.Proofs.Ytlaholgclcffaaa
open Go.RowKit

theorem half_pow (h : Int) (k : Nat) : h / 2 ^ k / 2 = h / 2 ^ (k + 1) := by
  rw [Int.pow_succ, Int.ediv_ediv_of_nonneg (Int.pow_nonneg (by decide))]

theorem c_rTag (h : Int) (w : World) (h0 : 0 ≤ h) (h1 : h < 18446744073709551616) :
    Calls Try.prog 20 #[.int .u64 h] w fun e w' => e = .returned (.int .i64 (fnvTag h)) ∧ w = w' := by
  go_enter Try.func20, Try.ntmps20
  go_wp2
  go_loop [0, 3] (fun x i => ∃ k : Nat, k ≤ 56 ∧ i = .int .i64 k ∧ x = .int .u64 (h / 2 ^ k)) (fun _ i => 56 - (intOf i).toNat)
  case atStart => exact ⟨0, Nat.zero_le _, rfl, by simp⟩
  case round =>
    obtain ⟨k, hk, rfl, rfl⟩ := hrel
    have d0 : 0 ≤ h / 2 ^ k := Int.ediv_nonneg h0 (Int.pow_nonneg (by decide))
    have d1 : h / 2 ^ k < 18446744073709551616 := Int.lt_of_le_of_lt (Int.ediv_le_self _ h0) h1
    by_cases hlt : k < 56
    · have Hh := Lib.hid (half_pow h k)
      go_wp2
      go_round
      case rel => exact ⟨k + 1, by omega, by go_num, by rw [Hh.out]⟩
      case measure => simp [intOf]; omega
    · obtain rfl : k = 56 := by omega
      have e := Lib.hid (show h / 2 ^ 56 = h / 72057594037927936 from rfl)
      by_cases c : h / 2 ^ 56 = 0
      · have Hm := Lib.hid (show (1 : Int) = fnvTag h from by unfold fnvTag; rw [if_pos (by rw [← e.out, c]; decide)])
        have cb : (h / 2 ^ 56 == 0) = true := by rw [c]; rfl
        clear c
        go_wp2
        go_ret
        exact ⟨ret_int Hm.out, rfl⟩
      · have Hm := Lib.hid (show h / 2 ^ 56 = fnvTag h from by unfold fnvTag; rw [if_neg (by rw [← e.out]; omega), e.out])
        have cb : (h / 2 ^ 56 == 0) = false := beq_eq_false_iff_ne.2 c
        have d2 : h / 2 ^ 56 < 256 := by rw [e.out]; omega
        clear c
        go_wp2
        go_ret
        exact ⟨ret_int Hm.out, rfl⟩

theorem c_rSize (b : Int) (w : World) (b0 : -9223372036854775808 ≤ b) (b1 : b ≤ 9223372036854775807) :
    Calls Try.prog 22 #[.int .i64 b] w fun e w' => e = .returned (.int .i64 (fnvSize b)) ∧ w = w' := by
  by_cases c : 1 ≤ b ∧ b ≤ 12
  · obtain ⟨c1, c2⟩ := c
    have Hs := Lib.hid (fnvSize_in c1 c2)
    rw [Hs.out]
    obtain ⟨n, rfl⟩ := Int.eq_ofNat_of_zero_le (show 0 ≤ b by omega)
    go_enter Try.func22, Try.ntmps22
    go_wp2
    go_loop [3, 4] (fun x i => ∃ k : Nat, k ≤ n ∧ i = .int .i64 k ∧ x = .int .i64 (2 ^ k)) (fun _ i => n - (intOf i).toNat)
    case atStart => exact ⟨0, Nat.zero_le _, rfl, by simp⟩
    case round =>
      obtain ⟨k, hk, rfl, rfl⟩ := hrel
      have hp : (2 : Int) ^ k ≤ 4096 := by
        have := Nat.pow_le_pow_right (n := 2) (show 0 < 2 by decide) (show k ≤ 12 by omega)
        rw [show (2 : Int) ^ k = ((2 ^ k : Nat) : Int) from (Int.natCast_pow 2 _).symm]
        omega
      have hq : (0 : Int) ≤ 2 ^ k := Int.pow_nonneg (by decide)
      by_cases hlt : k < n
      · have Hh := Lib.hid (show (2 : Int) ^ (k + 1) = 2 * 2 ^ k by rw [Int.pow_succ, Int.mul_comm])
        go_wp2
        go_round
        case rel => exact ⟨k + 1, by omega, by go_num, by rw [Hh.out]⟩
        case measure => simp [intOf]; omega
      · go_wp2
        go_ret
        exact ⟨ret_int (by rw [show k = n by omega]), rfl⟩
  · rw [fnvSize_out (by omega)]
    by_cases c2 : b < 1
    · go_enter Try.func22, Try.ntmps22
      go_wp2
      go_ret
      exact ⟨rfl, rfl⟩
    · have c3 : 12 < b := by omega
      go_enter Try.func22, Try.ntmps22
      go_wp2
      go_ret
      exact ⟨rfl, rfl⟩

theorem c_rBucket (h b : Int) (w : World) (h0 : 0 ≤ h) (h1 : h < 18446744073709551616) (b0 : -9223372036854775808 ≤ b) (b1 : b ≤ 9223372036854775807) :
    Calls Try.prog 24 #[.int .u64 h, .int .i64 b] w fun e w' => e = .returned (.int .i64 (fnvBucket h b)) ∧ w = w' := by
  have hs := fnvSize_bd b
  by_cases c : 1 ≤ b ∧ b ≤ 12
  · have hp := fnvSize_pos c.1 c.2
    have Hm := Lib.hid (fnvBucket_in (h := h) c.1 c.2)
    have hb := fnvBucket_bd (h := h) c.1 c.2
    rw [Hm.out] at hb ⊢
    have hz : (fnvSize b == 0) = false := by simp; omega
    clear c
    go_enter Try.func24, Try.ntmps24
    go_wp2_with (go_at_call 22; refine (c_rSize _ _ b0 b1).mono ?_; rintro e w' ⟨rfl, rfl⟩)
    go_ret
    exact ⟨rfl, rfl⟩
  · have Hz := Lib.hid (fnvSize_out (b := b) (by omega))
    have hz : (fnvSize b == 0) = true := by rw [Hz.out]; rfl
    rw [fnvBucket_out (by omega)]
    clear c
    go_enter Try.func24, Try.ntmps24
    go_wp2_with (go_at_call 22; refine (c_rSize _ _ b0 b1).mono ?_; rintro e w' ⟨rfl, rfl⟩)
    go_ret
    exact ⟨rfl, rfl⟩

theorem c_rOther (k t b : Int) (w : World) (k0 : -9223372036854775808 ≤ k) (k1 : k ≤ 9223372036854775807) (t0 : -9223372036854775808 ≤ t) (t1 : t ≤ 9223372036854775807) (b0 : -9223372036854775808 ≤ b) (b1 : b ≤ 9223372036854775807) :
    Calls Try.prog 26 #[.int .i64 k, .int .i64 t, .int .i64 b] w fun e w' => e = .returned (.int .i64 (fnvOther k t b)) ∧ w = w' := by
  have hs := fnvSize_bd b
  by_cases c : 0 ≤ k ∧ k < fnvSize b ∧ 1 ≤ t ∧ t ≤ 255
  · have Hm := Lib.hid (xor_other c)
    have hp : 1 ≤ fnvSize b := by omega
    have hm := mod_size_bd (x := t * 1540483477) hp
    obtain ⟨c1, c2, c3, c4⟩ := c
    go_enter Try.func26, Try.ntmps26
    go_wp2_with (go_at_call 22; refine (c_rSize _ _ b0 b1).mono ?_; rintro e w' ⟨rfl, rfl⟩)
    go_ret
    exact ⟨ret_int Hm.out, rfl⟩
  · rw [fnvOther_out c]
    by_cases c1 : k < 0
    · clear c
      go_enter Try.func26, Try.ntmps26
      go_wp2_with (go_at_call 22; refine (c_rSize _ _ b0 b1).mono ?_; rintro e w' ⟨rfl, rfl⟩)
      go_ret
      exact ⟨rfl, rfl⟩
    · by_cases c2 : fnvSize b ≤ k
      · clear c
        go_enter Try.func26, Try.ntmps26
        go_wp2_with (go_at_call 22; refine (c_rSize _ _ b0 b1).mono ?_; rintro e w' ⟨rfl, rfl⟩)
        go_ret
        exact ⟨rfl, rfl⟩
      · by_cases c3 : t < 1
        · clear c
          go_enter Try.func26, Try.ntmps26
          go_wp2_with (go_at_call 22; refine (c_rSize _ _ b0 b1).mono ?_; rintro e w' ⟨rfl, rfl⟩)
          go_ret
          exact ⟨rfl, rfl⟩
        · have c4 : 255 < t := by omega
          clear c
          go_enter Try.func26, Try.ntmps26
          go_wp2_with (go_at_call 22; refine (c_rSize _ _ b0 b1).mono ?_; rintro e w' ⟨rfl, rfl⟩)
          go_ret
          exact ⟨rfl, rfl⟩

theorem c_rStripe (b k : Int) (w : World) (k0 : -9223372036854775808 ≤ k) (k1 : k ≤ 9223372036854775807) (b0 : -9223372036854775808 ≤ b) (b1 : b ≤ 9223372036854775807) :
    Calls Try.prog 28 #[.agg #[.int .i64 b, .int .i64 k]] w fun e w' => e = .returned (.int .i64 (fnvStripe b k)) ∧ Below w.heap.size w w' := by
  have hs := fnvSize_bd b
  by_cases c : 0 ≤ k ∧ k < fnvSize b
  · have hb := (fnvSize_iff b).1 (by omega)
    have Hm := Lib.hid (show fnvStripe b k = (k + 31 * b) % 64 from by unfold fnvStripe; rw [if_pos c])
    obtain ⟨c1, c2⟩ := c
    obtain ⟨hb1, hb2⟩ := hb
    have d1 : decide (k < 0) = false := by simp; omega
    have d2 : decide (fnvSize b ≤ k) = false := by simp; omega
    rw [Hm.out]
    go_enter Try.func28, Try.ntmps28
    go_wp2
    go_quiet ((go_at_call 22; exact quietS (c_rSize _ _ b0 b1)))
    go_wp2
    go_ret
    exact ⟨rfl, below_drewN ((Below.refl _ _).alloc (Nat.le_refl _) _) _⟩
  · have Hm := Lib.hid (show fnvStripe b k = -1 from by unfold fnvStripe; rw [if_neg c])
    by_cases c1 : k < 0
    · have d1 : decide (k < 0) = true := by simp; omega
      clear c
      rw [Hm.out]
      go_enter Try.func28, Try.ntmps28
      go_wp2
      go_quiet ((go_at_call 22; exact quietS (c_rSize _ _ b0 b1)))
      go_wp2
      go_ret
      exact ⟨rfl, below_drewN ((Below.refl _ _).alloc (Nat.le_refl _) _) _⟩
    · have d1 : decide (k < 0) = false := by simp; omega
      have d2 : decide (fnvSize b ≤ k) = true := by simp; omega
      clear c
      rw [Hm.out]
      go_enter Try.func28, Try.ntmps28
      go_wp2
      go_quiet ((go_at_call 22; exact quietS (c_rSize _ _ b0 b1)))
      go_wp2
      go_ret
      exact ⟨rfl, below_drewN ((Below.refl _ _).alloc (Nat.le_refl _) _) _⟩
end Go.Proofs.Ytlaholgclcffaaa
