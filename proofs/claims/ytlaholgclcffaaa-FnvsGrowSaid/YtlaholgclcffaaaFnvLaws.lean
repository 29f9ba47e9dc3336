/- The laws of layer 1 that ask no answer: the way back, a table of one bit more, stripes. -/
import Derived.Test.YtlaholgclcffaaaFnvLives
namespace Go.Proofs.Ytlaholgclcffaaa
open Go.RowKit

theorem w_FnvsBack (s : ByteArray) (tag bits : Int) (w : World) (hs : s.size ≤ maxLen) (t0 : 0 ≤ tag) (t1 : tag ≤ 255) (b0 : 0 ≤ bits) (b1 : bits ≤ 255) :
    Calls Try.prog 5 #[.string s, .int .u8 tag, .int .u8 bits] w fun e w' => e = .returned (.bool true) ∧ Below w.heap.size w w' := by
  by_cases c : s.size > 2000
  · clear hs
    go_enter Try.func5, Try.ntmps5
    go_wp2_with (go_at_call 16; refine (c_lives01 _).mono ?_; rintro e w' ⟨rfl, hb⟩)
    go_ret
    exact ⟨rfl, hb⟩
  · have hh := fnvHash_bd s.data.toList
    have hn1 : 1 ≤ 1 + bits % 12 := by omega
    have hn2 : 1 + bits % 12 ≤ 12 := by omega
    have hg := fnvTag_bd _ hh.1 hh.2
    have ha := fnvBucket_bd (h := fnvHash s.data.toList) hn1 hn2
    have hz : w.heap.size ≤ (w.alloc (.cells #[.int .u64 (fnvHash s.data.toList)] 65)).heap.size := by simp
    have hsz := fnvSize_bd (1 + bits % 12)
    have hs' := Lib.hid hs
    clear hs
    by_cases ht : 0 < tag
    · have hb := fnvOther_bd (k := fnvBucket (fnvHash s.data.toList) (1 + bits % 12)) (t := tag) (b := 1 + bits % 12) ⟨ha.1, ha.2, by omega, t1⟩
      have hk := fnvOther_back (k := fnvBucket (fnvHash s.data.toList) (1 + bits % 12)) (t := tag) (b := 1 + bits % 12) ⟨ha.1, ha.2, by omega, t1⟩
      go_enter Try.func5, Try.ntmps5
      go_wp2_with (first | (go_at_call 19; refine (c_Tag _ _ hh.1 hh.2).mono ?_; rintro e w' ⟨rfl, rfl⟩) | (go_at_call 17; refine (c_Hash _ _ hs'.out).mono ?_; rintro e w' ⟨rfl, rfl⟩) | (go_at_call 21; refine (c_Size _ _ (by omega) (by omega)).mono ?_; rintro e w' ⟨rfl, rfl⟩) | (go_at_call 23; refine (c_Bucket _ _ _ hh.1 hh.2 (by omega) (by omega)).mono ?_; rintro e w' ⟨rfl, rfl⟩) | (go_at_call 25; refine (c_Other _ _ _ _ (by omega) (by omega) (by omega) (by omega) (by omega) (by omega)).mono ?_; rintro e w' ⟨rfl, rfl⟩) | (go_at_call 16; refine (c_lives01 _).mono ?_; rintro e w' ⟨rfl, hl⟩))
      go_ret
      exact ⟨rfl, ((Below.refl _ _).alloc (Nat.le_refl _) _).trans (hl.mono hz)⟩
    · have hb := fnvOther_bd (k := fnvBucket (fnvHash s.data.toList) (1 + bits % 12)) (t := fnvTag (fnvHash s.data.toList)) (b := 1 + bits % 12) ⟨ha.1, ha.2, hg.1, hg.2⟩
      have hk := fnvOther_back (k := fnvBucket (fnvHash s.data.toList) (1 + bits % 12)) (t := fnvTag (fnvHash s.data.toList)) (b := 1 + bits % 12) ⟨ha.1, ha.2, hg.1, hg.2⟩
      go_enter Try.func5, Try.ntmps5
      go_wp2_with (first | (go_at_call 19; refine (c_Tag _ _ hh.1 hh.2).mono ?_; rintro e w' ⟨rfl, rfl⟩) | (go_at_call 17; refine (c_Hash _ _ hs'.out).mono ?_; rintro e w' ⟨rfl, rfl⟩) | (go_at_call 21; refine (c_Size _ _ (by omega) (by omega)).mono ?_; rintro e w' ⟨rfl, rfl⟩) | (go_at_call 23; refine (c_Bucket _ _ _ hh.1 hh.2 (by omega) (by omega)).mono ?_; rintro e w' ⟨rfl, rfl⟩) | (go_at_call 25; refine (c_Other _ _ _ _ (by omega) (by omega) (by omega) (by omega) (by omega) (by omega)).mono ?_; rintro e w' ⟨rfl, rfl⟩) | (go_at_call 16; refine (c_lives01 _).mono ?_; rintro e w' ⟨rfl, hl⟩))
      go_ret
      exact ⟨rfl, ((Below.refl _ _).alloc (Nat.le_refl _) _).trans (hl.mono hz)⟩

/-! ### a table of one bit more -/
theorem size_succ {b : Int} (h1 : 1 ≤ b) (h2 : b ≤ 11) : fnvSize (b + 1) = 2 * fnvSize b := by
  rw [fnvSize_in (by omega) (by omega), fnvSize_in (by omega) (by omega), show (b + 1).toNat = b.toNat + 1 by omega, Int.pow_succ, Int.mul_comm]
theorem mod_twice (x s : Int) (hs : 0 < s) : x % (2 * s) = x % s ∨ x % (2 * s) = x % s + s := by
  have h1 : x % (2 * s) % s = x % s := Int.emod_emod_of_dvd x (Int.dvd_mul_left 2 s)
  have h2 := Int.emod_nonneg x (show 2 * s ≠ 0 by omega)
  have h3 := Int.emod_lt_of_pos x (show 0 < 2 * s by omega)
  by_cases c : x % (2 * s) < s
  · left; rw [← h1, Int.emod_eq_of_lt h2 c]
  · right
    have h4 : (x % (2 * s) - s) % s = x % (2 * s) % s := Int.sub_emod_right _ _
    rw [Int.emod_eq_of_lt (by omega) (by omega)] at h4
    omega
theorem bucket_grow {h b : Int} (h1 : 1 ≤ b) (h2 : b ≤ 11) : fnvBucket h (b + 1) = fnvBucket h b ∨ fnvBucket h (b + 1) = fnvBucket h b + fnvSize b := by
  rw [fnvBucket_in (by omega) (by omega), fnvBucket_in (by omega) (by omega), size_succ h1 h2]
  exact mod_twice _ _ (by have := fnvSize_pos h1 (show b ≤ 12 by omega); omega)
/-- The other one of a bucket in the greater table, modulo the smaller one's size. -/
theorem other_mod {k k' t b : Int} (h1 : 1 ≤ b) (h2 : b ≤ 11) (hk : 0 ≤ k ∧ k < fnvSize b) (hk' : k' = k ∨ k' = k + fnvSize b) (ht : 1 ≤ t ∧ t ≤ 255) :
    fnvOther k' t (b + 1) % fnvSize b = fnvOther k t b := by
  have hp := fnvSize_pos h1 (show b ≤ 12 by omega)
  have e1 := size_succ h1 h2
  have n1 : (fnvSize b).toNat = 2 ^ b.toNat := fnvSize_nat h1 (by omega)
  have n2 : (fnvSize (b + 1)).toNat = 2 * 2 ^ b.toNat := by omega
  rw [fnvOther_in (k := k') (by omega), fnvOther_in (k := k) (by omega)]
  rw [show fnvSize b = ((2 ^ b.toNat : Nat) : Int) by omega, ← Int.natCast_emod, Nat.xor_mod_two_pow]
  have hmk : k'.toNat % 2 ^ b.toNat = k.toNat := by
    rcases hk' with rfl | rfl
    · exact Nat.mod_eq_of_lt (by omega)
    · rw [show (k + fnvSize b).toNat = k.toNat + 2 ^ b.toNat by omega, Nat.add_mod_right]; exact Nat.mod_eq_of_lt (by omega)
  rw [hmk, n2, Nat.mod_mod_of_dvd _ (Nat.dvd_mul_left _ 2), Int.toNat_natCast]
theorem other_grow {k k' t b : Int} (h1 : 1 ≤ b) (h2 : b ≤ 11) (hk : 0 ≤ k ∧ k < fnvSize b) (hk' : k' = k ∨ k' = k + fnvSize b) (ht : 1 ≤ t ∧ t ≤ 255) :
    fnvOther k' t (b + 1) = fnvOther k t b ∨ fnvOther k' t (b + 1) = fnvOther k t b + fnvSize b := by
  have hm := other_mod h1 h2 hk hk' ht
  have hp := fnvSize_pos h1 (show b ≤ 12 by omega)
  have e1 := size_succ h1 h2
  have hb := fnvOther_bd (k := k') (t := t) (b := b + 1) (by omega)
  by_cases c : fnvOther k' t (b + 1) < fnvSize b
  · left; rw [← hm, Int.emod_eq_of_lt hb.1 c]
  · right
    have h4 : (fnvOther k' t (b + 1) - fnvSize b) % fnvSize b = fnvOther k' t (b + 1) % fnvSize b := Int.sub_emod_right _ _
    rw [Int.emod_eq_of_lt (by omega) (by omega)] at h4
    omega

theorem eq_or {x y z : Int} (h : x = y ∨ x = z) : (x == y) = true ∨ (x == y) = false ∧ (x == z) = true := by
  by_cases c : x = y
  · left; simp [c]
  · right; exact ⟨beq_eq_false_iff_ne.2 c, by simp; omega⟩

theorem w_FnvsGrow (s : ByteArray) (bits : Int) (w : World) (hs : s.size ≤ maxLen) (b0 : 0 ≤ bits) (b1 : bits ≤ 255) :
    Calls Try.prog 6 #[.string s, .int .u8 bits] w fun e w' => e = .returned (.bool true) ∧ Below w.heap.size w w' := by
  by_cases c : s.size > 2000
  · clear hs
    go_enter Try.func6, Try.ntmps6
    go_wp2_with (go_at_call 16; refine (c_lives01 _).mono ?_; rintro e w' ⟨rfl, hb⟩)
    go_ret
    exact ⟨rfl, hb⟩
  · have hh := fnvHash_bd s.data.toList
    obtain ⟨n, hn, hn1, hn2⟩ : ∃ n : Int, 1 + bits % 11 = n ∧ 1 ≤ n ∧ n ≤ 11 := ⟨_, rfl, by omega, by omega⟩
    have hg := fnvTag_bd _ hh.1 hh.2
    have ha := fnvBucket_bd (h := fnvHash s.data.toList) hn1 (show n ≤ 12 by omega)
    have hz : w.heap.size ≤ (w.alloc (.cells #[.int .u64 (fnvHash s.data.toList)] 65)).heap.size := by simp
    have hsz := fnvSize_bd n
    have hs1 : (fnvSize (n + 1) == 2 * fnvSize n) = true := by rw [size_succ hn1 hn2]; simp
    have hgb := bucket_grow (h := fnvHash s.data.toList) hn1 hn2
    have hgo := other_grow hn1 hn2 ha hgb hg
    have ha' := fnvBucket_bd (h := fnvHash s.data.toList) (show 1 ≤ n + 1 by omega) (show n + 1 ≤ 12 by omega)
    have hsz' := fnvSize_bd (n + 1)
    have hob := fnvOther_bd (k := fnvBucket (fnvHash s.data.toList) n) (t := fnvTag (fnvHash s.data.toList)) (b := n) ⟨ha.1, ha.2, hg.1, hg.2⟩
    have hs' := Lib.hid hs
    clear hs
    have b1' : (fnvBucket (fnvHash s.data.toList) (n + 1) == fnvBucket (fnvHash s.data.toList) n) = true ∨ (fnvBucket (fnvHash s.data.toList) (n + 1) == fnvBucket (fnvHash s.data.toList) n) = false ∧ (fnvBucket (fnvHash s.data.toList) (n + 1) == fnvBucket (fnvHash s.data.toList) n + fnvSize n) = true := eq_or hgb
    have b2' : (fnvOther (fnvBucket (fnvHash s.data.toList) (n + 1)) (fnvTag (fnvHash s.data.toList)) (n + 1) == fnvOther (fnvBucket (fnvHash s.data.toList) n) (fnvTag (fnvHash s.data.toList)) n) = true ∨ (fnvOther (fnvBucket (fnvHash s.data.toList) (n + 1)) (fnvTag (fnvHash s.data.toList)) (n + 1) == fnvOther (fnvBucket (fnvHash s.data.toList) n) (fnvTag (fnvHash s.data.toList)) n) = false ∧ (fnvOther (fnvBucket (fnvHash s.data.toList) (n + 1)) (fnvTag (fnvHash s.data.toList)) (n + 1) == fnvOther (fnvBucket (fnvHash s.data.toList) n) (fnvTag (fnvHash s.data.toList)) n + fnvSize n) = true := eq_or hgo
    have hbo := fnvOther_bd (k := fnvBucket (fnvHash s.data.toList) (n + 1)) (t := fnvTag (fnvHash s.data.toList)) (b := n + 1) ⟨ha'.1, ha'.2, hg.1, hg.2⟩
    clear hgb hgo
    rcases b1' with d1 | ⟨d1, d1'⟩ <;> rcases b2' with d2 | ⟨d2, d2'⟩
    all_goals
      go_enter Try.func6, Try.ntmps6
      go_wp2_with (first | (go_at_call 19; refine (c_Tag _ _ hh.1 hh.2).mono ?_; rintro e w' ⟨rfl, rfl⟩) | (go_at_call 17; refine (c_Hash _ _ hs'.out).mono ?_; rintro e w' ⟨rfl, rfl⟩) | (go_at_call 21; refine (c_Size _ _ (by omega) (by omega)).mono ?_; rintro e w' ⟨rfl, rfl⟩) | (go_at_call 23; refine (c_Bucket _ _ _ hh.1 hh.2 (by omega) (by omega)).mono ?_; rintro e w' ⟨rfl, rfl⟩) | (go_at_call 25; refine (c_Other _ _ _ _ (by omega) (by omega) (by omega) (by omega) (by omega) (by omega)).mono ?_; rintro e w' ⟨rfl, rfl⟩) | (go_at_call 16; refine (c_lives01 _).mono ?_; rintro e w' ⟨rfl, hl⟩))
      go_ret
      exact ⟨rfl, ((Below.refl _ _).alloc (Nat.le_refl _) _).trans (hl.mono hz)⟩

theorem w_FnvsStripes (bits k : Int) (w : World) (b0 : 0 ≤ bits) (b1 : bits ≤ 255) (k0 : 0 ≤ k) (k1 : k ≤ 65535) :
    Calls Try.prog 8 #[.int .u8 bits, .int .u16 k] w fun e w' => e = .returned (.bool true) ∧ Below w.heap.size w w' := by
  obtain ⟨n, hn, hn1, hn2⟩ : ∃ n : Int, 1 + bits % 11 = n ∧ 1 ≤ n ∧ n ≤ 11 := ⟨_, rfl, by omega, by omega⟩
  have hp := fnvSize_pos hn1 (show n ≤ 12 by omega)
  have hq := fnvSize_bd n
  have hk1 := Int.emod_nonneg k (show fnvSize n - 1 ≠ 0 by omega)
  have hk2 := Int.emod_lt_of_pos k (show 0 < fnvSize n - 1 by omega)
  have e1 := size_succ hn1 hn2
  have S1 : fnvStripe n (k % (fnvSize n - 1)) = (k % (fnvSize n - 1) + 31 * n) % 64 := by unfold fnvStripe; rw [if_pos (by omega)]
  have S2 : fnvStripe n (k % (fnvSize n - 1) + 1) = (k % (fnvSize n - 1) + 1 + 31 * n) % 64 := by unfold fnvStripe; rw [if_pos (by omega)]
  have S3 : fnvStripe (n + 1) (k % (fnvSize n - 1)) = (k % (fnvSize n - 1) + 31 * (n + 1)) % 64 := by unfold fnvStripe; rw [if_pos (by omega)]
  obtain ⟨x, hx⟩ : ∃ x, x = k % (fnvSize n - 1) := ⟨_, rfl⟩
  have q1 : 0 ≤ fnvStripe n x ∧ fnvStripe n x < 64 := by rw [hx, S1]; omega
  have q2 : 0 ≤ fnvStripe n (x + 1) ∧ fnvStripe n (x + 1) < 64 := by rw [hx, S2]; omega
  have q3 : (fnvStripe n x == fnvStripe n (x + 1)) = false := by rw [hx, S1, S2]; simp; omega
  have q4 : (fnvStripe n x == fnvStripe (n + 1) x) = false := by rw [hx, S1, S3]; simp; omega
  have q5 : (fnvStripe n x != fnvStripe n (x + 1)) = true := by simp only [bne, q3]; rfl
  have q6 : (fnvStripe n x != fnvStripe (n + 1) x) = true := by simp only [bne, q4]; rfl
  rw [← hx] at hk1 hk2
  clear e1 S1 S2 S3
  have hx' := hx.symm
  clear hx
  have hB := Below.refl w.heap.size w
  go_enter Try.func8, Try.ntmps8
  go_wp2_with (first | (go_at_call 21; refine (c_Size _ _ (by omega) (by omega)).mono ?_; rintro e w' ⟨rfl, rfl⟩) | (go_at_call 27; refine (c_Stripe _ _ _ (by omega) (by omega) (by omega) (by omega)).mono ?_; rintro e w' ⟨rfl, hb⟩; replace hB := hB.trans (hb.mono hB.size); clear hb) | (go_at_call 16; refine (c_lives01 _).mono ?_; rintro e w' ⟨rfl, hb⟩; replace hB := hB.trans (hb.mono hB.size); clear hb))
  go_ret
  exact ⟨rfl, hB⟩
end Go.Proofs.Ytlaholgclcffaaa
