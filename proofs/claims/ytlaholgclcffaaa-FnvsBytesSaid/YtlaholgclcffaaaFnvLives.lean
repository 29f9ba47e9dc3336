/- The laws of layer 1: the chapter's examples; of whatever key and number the hash and its tag. -/
import Derived.Test.YtlaholgclcffaaaFnvRef
namespace Go.Proofs.Ytlaholgclcffaaa
open Go.RowKit

theorem hash_nil : fnvHash [] = 14695981039346656037 := rfl
theorem other_ex1 : fnvOther 5 203 4 = 2 := by decide
theorem other_ex2 : fnvOther 2 203 4 = 5 := by decide
theorem tag_ex : fnvTag 14695981039346656037 = 203 := by decide
theorem bucket_ex : fnvBucket 14695981039346656037 4 = 5 := by decide
theorem stripe_ex : fnvStripe 4 5 = 1 := by decide

theorem c_lives01 (w : World) :
    Calls Try.prog 16 #[] w fun e w' => e = .returned (.bool true) ∧ Below w.heap.size w w' := by
  have e1 := hash_nil
  have e2 := tag_ex
  have e3 := bucket_ex
  have e4 := other_ex1
  have e5 := other_ex2
  have e6 := stripe_ex
  go_enter Try.func16, Try.ntmps16
  go_wp2_with fail
  refine (c_Hash _ _ (by decide)).mono ?_
  rintro e w' ⟨rfl, rfl⟩
  have hz : w.heap.size ≤ (w.alloc (.cells #[.int .u64 14695981039346656037] 65)).heap.size := by simp
  go_wp2_with (first | (go_at_call 19; refine (c_Tag _ _ (by omega) (by omega)).mono ?_; rintro e w' ⟨rfl, rfl⟩) | (go_at_call 23; refine (c_Bucket _ _ _ (by omega) (by omega) (by omega) (by omega)).mono ?_; rintro e w' ⟨rfl, rfl⟩) | (go_at_call 25; refine (c_Other _ _ _ _ (by omega) (by omega) (by omega) (by omega) (by omega) (by omega)).mono ?_; rintro e w' ⟨rfl, rfl⟩) | (go_at_call 27; refine (c_Stripe _ _ _ (by omega) (by omega) (by omega) (by omega)).mono ?_; rintro e w' ⟨rfl, hb⟩))
  go_ret
  exact ⟨rfl, ((Below.refl _ _).alloc (Nat.le_refl _) _).trans (hb.mono hz)⟩

theorem len_max {n : Nat} {m : Int} (h : ¬ (n : Int) > m) (hm : m ≤ 9223372036854775807) : n ≤ maxLen := by unfold maxLen; omega

theorem w_FnvsHash (s : ByteArray) (h : Int) (w : World) (_ : s.size ≤ maxLen) (h0 : 0 ≤ h) (h1 : h ≤ 18446744073709551615) :
    Calls Try.prog 3 #[.string s, .int .u64 h] w fun e w' => e = .returned (.bool true) ∧ Below w.heap.size w w' := by
  by_cases c : s.size > 5000
  · go_enter Try.func3, Try.ntmps3
    go_wp2_with (go_at_call 16; refine (c_lives01 _).mono ?_; rintro e w' ⟨rfl, hb⟩)
    go_ret
    exact ⟨rfl, hb⟩
  · have hs : s.size ≤ maxLen := by unfold maxLen; omega
    have hh := fnvHash_bd s.data.toList
    have hz : w.heap.size ≤ (w.alloc (.cells #[.int .u64 (fnvHash s.data.toList)] 65)).heap.size := by simp
    have hs' := Lib.hid hs
    clear hs
    go_enter Try.func3, Try.ntmps3
    go_wp2_with (first | (go_at_call 19; refine (c_Tag _ _ (by omega) (by omega)).mono ?_; rintro e w' ⟨rfl, rfl⟩) | (go_at_call 20; refine (c_rTag _ _ (by omega) (by omega)).mono ?_; rintro e w' ⟨rfl, rfl⟩) | (go_at_call 17; refine (c_Hash _ _ hs'.out).mono ?_; rintro e w' ⟨rfl, rfl⟩) | (go_at_call 18; refine (c_rHash _ _ hs'.out).mono ?_; rintro e w' ⟨rfl, rfl⟩) | (go_at_call 16; refine (c_lives01 _).mono ?_; rintro e w' ⟨rfl, hb⟩))
    go_ret
    exact ⟨rfl, ((Below.refl _ _).alloc (Nat.le_refl _) _).trans (hb.mono hz)⟩

theorem w_FnvsPlace (h b k t : Int) (w : World) (h0 : 0 ≤ h) (h1' : h ≤ 18446744073709551615) (b0 : -9223372036854775808 ≤ b) (b1 : b ≤ 9223372036854775807) (k0 : -9223372036854775808 ≤ k) (k1 : k ≤ 9223372036854775807) (t0 : -9223372036854775808 ≤ t) (t1 : t ≤ 9223372036854775807) :
    Calls Try.prog 4 #[.int .u64 h, .agg #[.int .i64 b, .int .i64 k], .int .i64 t] w fun e w' => e = .returned (.bool true) ∧ Below w.heap.size w w' := by
  have h1 : h < 18446744073709551616 := by omega
  go_enter Try.func4, Try.ntmps4
  go_wp2
  refine wp_region_via (by kernel_rfl) (by kernel_rfl) ?_
  repeat (go_big_quiet_step ((first | (go_at_call 21; exact viaS (c_Size _ _ b0 b1)) | (go_at_call 22; exact viaS (c_rSize _ _ b0 b1)) | (go_at_call 23; exact viaS (c_Bucket _ _ _ h0 h1 b0 b1)) | (go_at_call 24; exact viaS (c_rBucket _ _ _ h0 h1 b0 b1)) | (go_at_call 25; exact viaS (c_Other _ _ _ _ k0 k1 t0 t1 b0 b1)) | (go_at_call 26; exact viaS (c_rOther _ _ _ _ k0 k1 t0 t1 b0 b1)) | (go_at_call 27; exact viaB (c_Stripe _ _ _ k0 k1 b0 b1)) | (go_at_call 28; exact viaB (c_rStripe _ _ _ k0 k1 b0 b1)) | (go_at_call 16; exact viaB (c_lives01 _)))))
  refine wpQuiet_nil ?_
  rintro _ ⟨e, rfl⟩
  go_wp2
  go_ret
  exact ⟨rfl, ((Below.refl _ _).alloc (Nat.le_refl _) _).trans ((via_below _ e).mono (by simp))⟩
end Go.Proofs.Ytlaholgclcffaaa
