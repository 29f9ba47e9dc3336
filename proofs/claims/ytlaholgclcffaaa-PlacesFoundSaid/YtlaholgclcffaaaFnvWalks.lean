/- Contracts of layer 1's functions and of the document's: what each returns, and what becomes of the world. -/
import Derived.Test.YtlaholgclcffaaaRows
import Derived.Test.YtlaholgclcffaaaFnvPlain
import Derived.Test.YtlaholgclcffaaaLib
namespace Go.Proofs.Ytlaholgclcffaaa
open Go.RowKit

theorem c_Tag (h : Int) (w : World) (h0 : 0 ≤ h) (h1 : h < 18446744073709551616) :
    Calls Try.prog 19 #[.int .u64 h] w fun e w' => e = .returned (.int .i64 (fnvTag h)) ∧ w = w' := by
  by_cases c : h / 72057594037927936 < 1
  · have e : fnvTag h = 1 := by unfold fnvTag; rw [if_pos c]
    rw [e]
    go_enter Try.func19, Try.ntmps19
    go_wp2
    go_ret
    exact ⟨rfl, rfl⟩
  · have e : fnvTag h = h / 72057594037927936 := by unfold fnvTag; rw [if_neg c]
    rw [e]
    go_enter Try.func19, Try.ntmps19
    go_wp2
    go_ret
    exact ⟨rfl, rfl⟩

theorem c_Size (b : Int) (w : World) (b0 : -9223372036854775808 ≤ b) (b1 : b ≤ 9223372036854775807) :
    Calls Try.prog 21 #[.int .i64 b] w fun e w' => e = .returned (.int .i64 (fnvSize b)) ∧ w = w' := by
  by_cases c : 1 ≤ b ∧ b ≤ 12
  · obtain ⟨c1, c2⟩ := c
    have hp := two_pow_le (n := b.toNat) (by omega) (by omega)
    rw [fnvSize_in c1 c2]
    go_enter Try.func21, Try.ntmps21
    go_wp2
    go_ret
    exact ⟨rfl, rfl⟩
  · rw [fnvSize_out (by omega)]
    by_cases c2 : b < 1
    · go_enter Try.func21, Try.ntmps21
      go_wp2
      go_ret
      exact ⟨rfl, rfl⟩
    · have c3 : 12 < b := by omega
      go_enter Try.func21, Try.ntmps21
      go_wp2
      go_ret
      exact ⟨rfl, rfl⟩

theorem c_Bucket (h b : Int) (w : World) (h0 : 0 ≤ h) (h1 : h < 18446744073709551616) (b0 : -9223372036854775808 ≤ b) (b1 : b ≤ 9223372036854775807) :
    Calls Try.prog 23 #[.int .u64 h, .int .i64 b] w fun e w' => e = .returned (.int .i64 (fnvBucket h b)) ∧ w = w' := by
  have hs := fnvSize_bd b
  by_cases c : 1 ≤ b ∧ b ≤ 12
  · have hp := fnvSize_pos c.1 c.2
    have hm : wrap64 (bits .and .u64 h (fnvSize b - 1)) = fnvBucket h b := by
      have := fnvBucket_bd (h := h) c.1 c.2
      rw [bits_and_size h0 h1 c.1 c.2, ← fnvBucket_in c.1 c.2, IntWalk.wrap64_in _ (by omega)]
    have Hm := Lib.hid hm
    clear hm c
    go_enter Try.func23, Try.ntmps23
    go_wp2_with (go_at_call 21; refine (c_Size _ _ b0 b1).mono ?_; rintro e w' ⟨rfl, rfl⟩)
    go_ret
    exact ⟨ret_int Hm.out, rfl⟩
  · have hz : fnvSize b ≤ 0 := by rw [fnvSize_out (by omega)]; omega
    rw [fnvBucket_out (by omega)]
    clear c
    go_enter Try.func23, Try.ntmps23
    go_wp2_with (go_at_call 21; refine (c_Size _ _ b0 b1).mono ?_; rintro e w' ⟨rfl, rfl⟩)
    go_ret
    exact ⟨rfl, rfl⟩

theorem c_Other (k t b : Int) (w : World) (k0 : -9223372036854775808 ≤ k) (k1 : k ≤ 9223372036854775807) (t0 : -9223372036854775808 ≤ t) (t1 : t ≤ 9223372036854775807) (b0 : -9223372036854775808 ≤ b) (b1 : b ≤ 9223372036854775807) :
    Calls Try.prog 25 #[.int .i64 k, .int .i64 t, .int .i64 b] w fun e w' => e = .returned (.int .i64 (fnvOther k t b)) ∧ w = w' := by
  have hs := fnvSize_bd b
  by_cases c : 0 ≤ k ∧ k < fnvSize b ∧ 1 ≤ t ∧ t ≤ 255
  · have Hm := Lib.hid (bits_other c)
    obtain ⟨c1, c2, c3, c4⟩ := c
    go_enter Try.func25, Try.ntmps25
    go_wp2_with (go_at_call 21; refine (c_Size _ _ b0 b1).mono ?_; rintro e w' ⟨rfl, rfl⟩)
    go_ret
    exact ⟨ret_int Hm.out, rfl⟩
  · rw [fnvOther_out c]
    by_cases c1 : k < 0
    · clear c
      go_enter Try.func25, Try.ntmps25
      go_wp2_with (go_at_call 21; refine (c_Size _ _ b0 b1).mono ?_; rintro e w' ⟨rfl, rfl⟩)
      go_ret
      exact ⟨rfl, rfl⟩
    · by_cases c2 : fnvSize b ≤ k
      · clear c
        go_enter Try.func25, Try.ntmps25
        go_wp2_with (go_at_call 21; refine (c_Size _ _ b0 b1).mono ?_; rintro e w' ⟨rfl, rfl⟩)
        go_ret
        exact ⟨rfl, rfl⟩
      · by_cases c3 : t < 1
        · clear c
          go_enter Try.func25, Try.ntmps25
          go_wp2_with (go_at_call 21; refine (c_Size _ _ b0 b1).mono ?_; rintro e w' ⟨rfl, rfl⟩)
          go_ret
          exact ⟨rfl, rfl⟩
        · have c4 : 255 < t := by omega
          clear c
          go_enter Try.func25, Try.ntmps25
          go_wp2_with (go_at_call 21; refine (c_Size _ _ b0 b1).mono ?_; rintro e w' ⟨rfl, rfl⟩)
          go_ret
          exact ⟨rfl, rfl⟩

theorem c_Stripe (b k : Int) (w : World) (k0 : -9223372036854775808 ≤ k) (k1 : k ≤ 9223372036854775807) (b0 : -9223372036854775808 ≤ b) (b1 : b ≤ 9223372036854775807) :
    Calls Try.prog 27 #[.agg #[.int .i64 b, .int .i64 k]] w fun e w' => e = .returned (.int .i64 (fnvStripe b k)) ∧ Below w.heap.size w w' := by
  have hs := fnvSize_bd b
  by_cases c : 0 ≤ k ∧ k < fnvSize b
  · have hb := (fnvSize_iff b).1 (by omega)
    have Hm := Lib.hid (show fnvStripe b k = (k + 31 * b) % 64 from by unfold fnvStripe; rw [if_pos c])
    obtain ⟨c1, c2⟩ := c
    obtain ⟨hb1, hb2⟩ := hb
    have d1 : decide (k < 0) = false := by simp; omega
    have d2 : decide (fnvSize b ≤ k) = false := by simp; omega
    rw [Hm.out]
    go_enter Try.func27, Try.ntmps27
    go_wp2
    go_quiet ((go_at_call 21; exact quietS (c_Size _ _ b0 b1)))
    go_wp2
    go_ret
    exact ⟨rfl, below_drewN ((Below.refl _ _).alloc (Nat.le_refl _) _) _⟩
  · have Hm := Lib.hid (show fnvStripe b k = -1 from by unfold fnvStripe; rw [if_neg c])
    by_cases c1 : k < 0
    · have d1 : decide (k < 0) = true := by simp; omega
      clear c
      rw [Hm.out]
      go_enter Try.func27, Try.ntmps27
      go_wp2
      go_quiet ((go_at_call 21; exact quietS (c_Size _ _ b0 b1)))
      go_wp2
      go_ret
      exact ⟨rfl, below_drewN ((Below.refl _ _).alloc (Nat.le_refl _) _) _⟩
    · have d1 : decide (k < 0) = false := by simp; omega
      have d2 : decide (fnvSize b ≤ k) = true := by simp; omega
      clear c
      rw [Hm.out]
      go_enter Try.func27, Try.ntmps27
      go_wp2
      go_quiet ((go_at_call 21; exact quietS (c_Size _ _ b0 b1)))
      go_wp2
      go_ret
      exact ⟨rfl, below_drewN ((Below.refl _ _).alloc (Nat.le_refl _) _) _⟩

/-! ### the hash, with its closure -/
theorem hstep_eq {h c : Int} (h0 : 0 ≤ h) (h1 : h < 18446744073709551616) (c0 : 0 ≤ c) (c1 : c < 256) : IntKind.u64.wrap (bits .xor .u64 h c * 1099511628211) = fnvStep h c := by
  rw [u64_xor h c h0 h1 c0 (by omega), IntKind.wrap_u64]
  unfold fnvStep
  omega

theorem c_add (b : Nat) (h c : Int) (w : World) (h0 : 0 ≤ h) (h1 : h < 18446744073709551616) (c0 : 0 ≤ c) (c1 : c < 256) (hc : w.cell? ⟨b, 0, none⟩ = some (.int .u64 h)) (hf : w.frozen? ⟨b, 0, none⟩ = false) :
    Calls Try.prog 54 #[.pointer (some ⟨b, 0, none⟩), .int .u8 c] w fun e w' => e = .returned (.tuple #[]) ∧ w.setCell ⟨b, 0, none⟩ (.int .u64 (fnvStep h c)) = w' := by
  have Hm := Lib.hid (hstep_eq h0 h1 c0 c1)
  go_enter Try.func54, Try.ntmps54
  go_wp2
  go_end0
  exact ⟨rfl, by rw [Hm.out]⟩

theorem c_each (s : ByteArray) (w : World) (hs : s.size ≤ maxLen) (h : Int) (h0 : 0 ≤ h) (h1 : h < 18446744073709551616) (T : Nat) :
    Calls Try.prog 53 #[.string s, .func (.func 54) #[.pointer (some ⟨w.heap.size, 0, none⟩)] #[]] (w.alloc (.cells #[.int .u64 h] T)) fun e w' => e = .returned (.tuple #[]) ∧ w.alloc (.cells #[.int .u64 (fnvFrom h s.data.toList)] T) = w' := by
  unfold maxLen at hs
  go_enter Try.func53, Try.ntmps53
  go_wp2
  go_loopw [7] (fun i wr => ∃ k : Nat, k ≤ s.size ∧ i = .int .i64 k ∧ wr = w.alloc (.cells #[.int .u64 (fnvFrom h (s.data.toList.take k))] T)) (fun i _ => s.size - (intOf i).toNat)
  case atStart => exact ⟨0, Nat.zero_le _, rfl, by simp [fnvFrom_nil]⟩
  case round =>
    obtain ⟨k, hk, rfl, rfl⟩ := hrel
    have hb := fnvFrom_bd h (s.data.toList.take k) h0 h1
    by_cases hlt : k < s.size
    · have HS := Lib.hid (show fnvFrom h (s.data.toList.take (k + 1)) = fnvStep (fnvFrom h (s.data.toList.take k)) (s[k].toNat : Int) by rw [take_snoc s k hlt, fnvFrom_snoc])
      have hc0 : (0 : Int) ≤ (s[k].toNat : Int) := by omega
      have hc1 : (s[k].toNat : Int) < 256 := by have := s[k].toNat_lt; omega
      have g1 := Lib.hid (show (w.alloc (.cells #[.int .u64 (fnvFrom h (s.data.toList.take k))] T)).cell? ⟨w.heap.size, 0, none⟩ = some (.int .u64 (fnvFrom h (s.data.toList.take k))) by simp)
      have g2 := Lib.hid (show (w.alloc (.cells #[.int .u64 (fnvFrom h (s.data.toList.take k))] T)).frozen? ⟨w.heap.size, 0, none⟩ = false by simp)
      go_wp2_with (go_at_call 54; refine (c_add _ _ _ _ hb.1 hb.2 hc0 hc1 g1.out g2.out).mono ?_; rintro e w' ⟨rfl, rfl⟩)
      go_roundw
      case rel => exact ⟨k + 1, by omega, by go_num, by rw [HS.out]⟩
      case measure => simp [intOf]; omega
    · go_wp2
      go_end0
      exact ⟨rfl, by rw [List.take_of_length_le (by simp; omega)]⟩

theorem c_Hash (s : ByteArray) (w : World) (hs : s.size ≤ maxLen) :
    Calls Try.prog 17 #[.string s] w fun e w' => e = .returned (.int .u64 (fnvHash s.data.toList)) ∧ w.alloc (.cells #[.int .u64 (fnvHash s.data.toList)] 65) = w' := by
  go_enter Try.func17, Try.ntmps17
  go_wp2_with (go_at_call 53; refine (c_each _ _ hs _ (by decide) (by decide) _).mono ?_; rintro e w' ⟨rfl, rfl⟩)
  go_ret
  exact ⟨rfl, rfl⟩

theorem c_rHash (s : ByteArray) (w : World) (hs : s.size ≤ maxLen) :
    Calls Try.prog 18 #[.string s] w fun e w' => e = .returned (.int .u64 (fnvHash s.data.toList)) ∧ w = w' := by
  unfold maxLen at hs
  go_enter Try.func18, Try.ntmps18
  go_wp2
  go_loop [3, 4] (fun h i => ∃ k : Nat, k ≤ s.size ∧ i = .int .i64 k ∧ h = .int .u64 (fnvFrom 14695981039346656037 (s.data.toList.take k))) (fun _ i => s.size - (intOf i).toNat)
  case atStart => exact ⟨0, Nat.zero_le _, rfl, by simp [fnvFrom_nil]⟩
  case round =>
    obtain ⟨k, hk, rfl, rfl⟩ := hrel
    have hb := fnvFrom_bd 14695981039346656037 (s.data.toList.take k) (by decide) (by decide)
    by_cases hlt : k < s.size
    · have HS := Lib.hid (show fnvFrom 14695981039346656037 (s.data.toList.take (k + 1)) = fnvStep (fnvFrom 14695981039346656037 (s.data.toList.take k)) (s[k].toNat : Int) by rw [take_snoc s k hlt, fnvFrom_snoc])
      have hc0 : (0 : Int) ≤ (s[k].toNat : Int) := by omega
      have hc1 : (s[k].toNat : Int) < 256 := by have := s[k].toNat_lt; omega
      have Hm := Lib.hid (hstep_eq hb.1 hb.2 hc0 hc1)
      go_wp2
      go_round
      case rel => exact ⟨k + 1, by omega, by go_num, by rw [HS.out, Hm.out]⟩
      case measure => simp [intOf]; omega
    · go_wp2
      go_ret
      exact ⟨ret_int (by rw [List.take_of_length_le (by simp; omega)]; rfl), rfl⟩
end Go.Proofs.Ytlaholgclcffaaa
