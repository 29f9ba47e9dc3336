/- Contracts that other seats of ours hold too (taken by sub.py). -/
import Derived.Test.YtlcibfpibklbdaaGreatBaA
namespace Go.Proofs.YtlcibfpibklbdaaGreat
set_option linter.unusedSimpArgs false
open Go.RowKit
set_option linter.unusedVariables false
theorem c_fTag (h : Int) (w : World) (h0 : 0 ≤ h) (h1 : h < 18446744073709551616) :
    Calls Tryz.prog 92 #[.int .u64 h] w fun e w' => e = .returned (.int .i64 (fnvTag h)) ∧ w = w' := by
  by_cases c : h / 72057594037927936 < 1
  · have e : fnvTag h = 1 := by unfold fnvTag; rw [if_pos c]
    rw [e]
    go_enter Tryz.func92, Tryz.ntmps92
    go_wp2
    go_ret
    exact ⟨rfl, rfl⟩
  · have e : fnvTag h = h / 72057594037927936 := by unfold fnvTag; rw [if_neg c]
    rw [e]
    go_enter Tryz.func92, Tryz.ntmps92
    go_wp2
    go_ret
    exact ⟨rfl, rfl⟩

theorem c_fBucket (h b : Int) (w : World) (h0 : 0 ≤ h) (h1 : h < 18446744073709551616) (b0 : -9223372036854775808 ≤ b) (b1 : b ≤ 9223372036854775807) :
    Calls Tryz.prog 90 #[.int .u64 h, .int .i64 b] w fun e w' => e = .returned (.int .i64 (fnvBucket h b)) ∧ w = w' := by
  have hs := fnvSize_bd b
  by_cases c : 1 ≤ b ∧ b ≤ 12
  · have hp := fnvSize_pos c.1 c.2
    have hm : wrap64 (bits .and .u64 h (fnvSize b - 1)) = fnvBucket h b := by
      have := fnvBucket_bd (h := h) c.1 c.2
      rw [bits_and_size h0 h1 c.1 c.2, ← fnvBucket_in c.1 c.2, IntWalk.wrap64_in _ (by omega)]
    have Hm := Lib.hid hm
    clear hm c
    go_enter Tryz.func90, Tryz.ntmps90
    go_wp2_with (go_at_call 73; refine (c_Size _ _ b0 b1).mono ?_; rintro e w' ⟨rfl, rfl⟩)
    go_ret
    exact ⟨ret_int Hm.out, rfl⟩
  · have hz : fnvSize b ≤ 0 := by rw [fnvSize_out (by omega)]; omega
    rw [fnvBucket_out (by omega)]
    clear c
    go_enter Tryz.func90, Tryz.ntmps90
    go_wp2_with (go_at_call 73; refine (c_Size _ _ b0 b1).mono ?_; rintro e w' ⟨rfl, rfl⟩)
    go_ret
    exact ⟨rfl, rfl⟩

theorem c_fOther (k t b : Int) (w : World) (k0 : -9223372036854775808 ≤ k) (k1 : k ≤ 9223372036854775807) (t0 : -9223372036854775808 ≤ t) (t1 : t ≤ 9223372036854775807) (b0 : -9223372036854775808 ≤ b) (b1 : b ≤ 9223372036854775807) :
    Calls Tryz.prog 91 #[.int .i64 k, .int .i64 t, .int .i64 b] w fun e w' => e = .returned (.int .i64 (fnvOther k t b)) ∧ w = w' := by
  have hs := fnvSize_bd b
  by_cases c : 0 ≤ k ∧ k < fnvSize b ∧ 1 ≤ t ∧ t ≤ 255
  · have Hm := Lib.hid (bits_other c)
    obtain ⟨c1, c2, c3, c4⟩ := c
    go_enter Tryz.func91, Tryz.ntmps91
    go_wp2_with (go_at_call 73; refine (c_Size _ _ b0 b1).mono ?_; rintro e w' ⟨rfl, rfl⟩)
    go_ret
    exact ⟨ret_int Hm.out, rfl⟩
  · rw [fnvOther_out c]
    by_cases c1 : k < 0
    · clear c
      go_enter Tryz.func91, Tryz.ntmps91
      go_wp2_with (go_at_call 73; refine (c_Size _ _ b0 b1).mono ?_; rintro e w' ⟨rfl, rfl⟩)
      go_ret
      exact ⟨rfl, rfl⟩
    · by_cases c2 : fnvSize b ≤ k
      · clear c
        go_enter Tryz.func91, Tryz.ntmps91
        go_wp2_with (go_at_call 73; refine (c_Size _ _ b0 b1).mono ?_; rintro e w' ⟨rfl, rfl⟩)
        go_ret
        exact ⟨rfl, rfl⟩
      · by_cases c3 : t < 1
        · clear c
          go_enter Tryz.func91, Tryz.ntmps91
          go_wp2_with (go_at_call 73; refine (c_Size _ _ b0 b1).mono ?_; rintro e w' ⟨rfl, rfl⟩)
          go_ret
          exact ⟨rfl, rfl⟩
        · have c4 : 255 < t := by omega
          clear c
          go_enter Tryz.func91, Tryz.ntmps91
          go_wp2_with (go_at_call 73; refine (c_Size _ _ b0 b1).mono ?_; rintro e w' ⟨rfl, rfl⟩)
          go_ret
          exact ⟨rfl, rfl⟩

end Go.Proofs.YtlcibfpibklbdaaGreat
