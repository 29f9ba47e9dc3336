/- What layer 1 computes, in plain Lean: the hash of a key, its tag, a table's size, a hash's bucket, the other one by a tag, a place's stripe. No program in sight. -/
import Derived.Laws.BitsAllLaws
import Derived.Laws.BitsLemmas
namespace Go.Proofs.YtijifjiehldcaaaGreat
set_option linter.unusedVariables false
set_option linter.unusedSimpArgs false

/-- One byte more (P1.1). -/
def fnvStep (h c : Int) : Int := ((h.toNat ^^^ c.toNat) * 1099511628211 % 18446744073709551616 : Nat)
def fnvFrom (h : Int) (l : List UInt8) : Int := l.foldl (fun h c => fnvStep h (c.toNat : Int)) h
/-- The hash of a key. -/
def fnvHash (l : List UInt8) : Int := fnvFrom 14695981039346656037 l
def fnvTag (h : Int) : Int := if h / 72057594037927936 < 1 then 1 else h / 72057594037927936
def fnvSize (b : Int) : Int := if 1 ≤ b ∧ b ≤ 12 then 2 ^ b.toNat else 0
def fnvBucket (h b : Int) : Int := if 1 ≤ b ∧ b ≤ 12 then h % fnvSize b else -1
def fnvOther (k t b : Int) : Int := if 0 ≤ k ∧ k < fnvSize b ∧ 1 ≤ t ∧ t ≤ 255 then ((k.toNat ^^^ (t.toNat * 1540483477 % (fnvSize b).toNat) : Nat) : Int) else -1
def fnvStripe (b k : Int) : Int := if 0 ≤ k ∧ k < fnvSize b then (k + 31 * b) % 64 else -1

theorem fnvStep_bd (h c : Int) : 0 ≤ fnvStep h c ∧ fnvStep h c < 18446744073709551616 := by
  unfold fnvStep
  have := Nat.mod_lt ((h.toNat ^^^ c.toNat) * 1099511628211) (show 0 < 18446744073709551616 by decide)
  omega
theorem fnvFrom_snoc (h : Int) (l : List UInt8) (c : UInt8) : fnvFrom h (l ++ [c]) = fnvStep (fnvFrom h l) (c.toNat : Int) := by
  simp [fnvFrom]
theorem fnvFrom_nil (h : Int) : fnvFrom h [] = h := rfl
theorem fnvFrom_bd (h : Int) (l : List UInt8) (h0 : 0 ≤ h) (h1 : h < 18446744073709551616) : 0 ≤ fnvFrom h l ∧ fnvFrom h l < 18446744073709551616 := by
  induction l generalizing h with
  | nil => exact ⟨h0, h1⟩
  | cons c l ih => exact ih (fnvStep h c.toNat) (fnvStep_bd _ _).1 (fnvStep_bd _ _).2
theorem fnvHash_bd (l : List UInt8) : 0 ≤ fnvHash l ∧ fnvHash l < 18446744073709551616 := fnvFrom_bd _ l (by decide) (by decide)
theorem fnvTag_bd (h : Int) (h0 : 0 ≤ h) (h1 : h < 18446744073709551616) : 1 ≤ fnvTag h ∧ fnvTag h ≤ 255 := by
  unfold fnvTag; split <;> omega

theorem two_pow_le {n : Nat} (h1 : 1 ≤ n) (h2 : n ≤ 12) : (2 : Int) ≤ 2 ^ n ∧ (2 : Int) ^ n ≤ 4096 := by
  have : ∀ n, n ≤ 12 → 1 ≤ n → (2 : Int) ≤ 2 ^ n ∧ (2 : Int) ^ n ≤ 4096 := by decide
  exact this n h2 h1
theorem fnvSize_in {b : Int} (h1 : 1 ≤ b) (h2 : b ≤ 12) : fnvSize b = 2 ^ b.toNat := by unfold fnvSize; rw [if_pos ⟨h1, h2⟩]
theorem fnvSize_out {b : Int} (h : b < 1 ∨ 12 < b) : fnvSize b = 0 := by unfold fnvSize; rw [if_neg (by omega)]
theorem fnvSize_bd (b : Int) : 0 ≤ fnvSize b ∧ fnvSize b ≤ 4096 := by
  by_cases h : 1 ≤ b ∧ b ≤ 12
  · rw [fnvSize_in h.1 h.2]; have := two_pow_le (n := b.toNat) (by omega) (by omega); omega
  · rw [fnvSize_out (by omega)]; omega
theorem fnvSize_pos {b : Int} (h1 : 1 ≤ b) (h2 : b ≤ 12) : 2 ≤ fnvSize b := by
  rw [fnvSize_in h1 h2]; have := two_pow_le (n := b.toNat) (by omega) (by omega); omega
theorem fnvSize_iff (b : Int) : 1 ≤ fnvSize b ↔ 1 ≤ b ∧ b ≤ 12 := by
  constructor
  · intro h; by_cases hb : 1 ≤ b ∧ b ≤ 12
    · exact hb
    · rw [fnvSize_out (by omega)] at h; omega
  · intro ⟨h1, h2⟩; have := fnvSize_pos h1 h2; omega
theorem fnvSize_nat {b : Int} (h1 : 1 ≤ b) (h2 : b ≤ 12) : (fnvSize b).toNat = 2 ^ b.toNat := by
  rw [fnvSize_in h1 h2, show (2 : Int) ^ b.toNat = ((2 ^ b.toNat : Nat) : Int) from (Int.natCast_pow 2 _).symm, Int.toNat_natCast]
/-- A mask of a table's size is the remainder by it. -/
theorem and_size {b : Int} (h1 : 1 ≤ b) (h2 : b ≤ 12) (x : Nat) : x &&& (fnvSize b - 1).toNat = x % (fnvSize b).toNat := by
  have e : (fnvSize b - 1).toNat = 2 ^ b.toNat - 1 := by rw [← fnvSize_nat h1 h2]; have := fnvSize_pos h1 h2; omega
  rw [e, Nat.and_two_pow_sub_one_eq_mod, fnvSize_nat h1 h2]
theorem fnvBucket_in {h b : Int} (h1 : 1 ≤ b) (h2 : b ≤ 12) : fnvBucket h b = h % fnvSize b := by unfold fnvBucket; rw [if_pos ⟨h1, h2⟩]
theorem fnvBucket_out {h b : Int} (h1 : b < 1 ∨ 12 < b) : fnvBucket h b = -1 := by unfold fnvBucket; rw [if_neg (by omega)]
theorem fnvBucket_bd {h b : Int} (h1 : 1 ≤ b) (h2 : b ≤ 12) : 0 ≤ fnvBucket h b ∧ fnvBucket h b < fnvSize b := by
  rw [fnvBucket_in h1 h2]; have := fnvSize_pos h1 h2
  exact ⟨Int.emod_nonneg _ (by omega), Int.emod_lt_of_pos _ (by omega)⟩
theorem xor_size_lt {b : Int} (h1 : 1 ≤ b) (h2 : b ≤ 12) {k m : Nat} (hk : (k : Int) < fnvSize b) (hm : (m : Int) < fnvSize b) : ((k ^^^ m : Nat) : Int) < fnvSize b := by
  have e := fnvSize_nat h1 h2
  have := Nat.xor_lt_two_pow (x := k) (y := m) (n := b.toNat) (by omega) (by omega)
  have := fnvSize_pos h1 h2
  omega
theorem fnvOther_in {k t b : Int} (h : 0 ≤ k ∧ k < fnvSize b ∧ 1 ≤ t ∧ t ≤ 255) : fnvOther k t b = ((k.toNat ^^^ (t.toNat * 1540483477 % (fnvSize b).toNat) : Nat) : Int) := by unfold fnvOther; rw [if_pos h]
theorem fnvOther_out {k t b : Int} (h : ¬ (0 ≤ k ∧ k < fnvSize b ∧ 1 ≤ t ∧ t ≤ 255)) : fnvOther k t b = -1 := by unfold fnvOther; rw [if_neg h]
theorem fnvOther_bd {k t b : Int} (h : 0 ≤ k ∧ k < fnvSize b ∧ 1 ≤ t ∧ t ≤ 255) : 0 ≤ fnvOther k t b ∧ fnvOther k t b < fnvSize b := by
  have hb := (fnvSize_iff b).1 (by omega)
  rw [fnvOther_in h]
  refine ⟨by omega, xor_size_lt hb.1 hb.2 (by omega) ?_⟩
  have := fnvSize_pos hb.1 hb.2
  have := Nat.mod_lt (t.toNat * 1540483477) (show 0 < (fnvSize b).toNat by omega)
  omega
/-- The other one of the other one is the bucket. -/
theorem fnvOther_back {k t b : Int} (h : 0 ≤ k ∧ k < fnvSize b ∧ 1 ≤ t ∧ t ≤ 255) : fnvOther (fnvOther k t b) t b = k := by
  have hb := fnvOther_bd h
  rw [fnvOther_in (k := fnvOther k t b) ⟨hb.1, hb.2, h.2.2.1, h.2.2.2⟩, fnvOther_in h]
  rw [Int.toNat_natCast, Nat.xor_assoc, Nat.xor_self, Nat.xor_zero]
  omega
/-- The mask as the walk spells it. -/
theorem bits_and_size {h b : Int} (h0 : 0 ≤ h) (h1 : h < 18446744073709551616) (b1 : 1 ≤ b) (b2 : b ≤ 12) : bits .and .u64 h (fnvSize b - 1) = h % fnvSize b := by
  have hp := fnvSize_pos b1 b2
  have hq := fnvSize_bd b
  rw [u64_and h (fnvSize b - 1) h0 h1 (by omega) (by omega), and_size b1 b2, Int.natCast_emod, Int.toNat_of_nonneg h0, Int.toNat_of_nonneg hq.1]
theorem ofInt_i64 (a : Nat) (ha : a < 9223372036854775808) : (BitVec.ofInt 64 (a : Int)).toNat = a := ofInt_u64 a (by omega)
theorem i64_and_nat (a b : Nat) (ha : a < 9223372036854775808) (hb : b < 9223372036854775808) : bits .and .i64 (a : Int) (b : Int) = ((a &&& b : Nat) : Int) := by
  have hx : a &&& b < 2 ^ 63 := Nat.and_lt_two_pow a (by omega)
  show IntKind.i64.wrap ((BitVec.ofInt 64 (a : Int) &&& BitVec.ofInt 64 (b : Int)).toNat : Int) = _
  rw [BitVec.toNat_and, ofInt_i64 a ha, ofInt_i64 b hb]
  rw [IntKind.wrap_i64]
  omega
theorem i64_xor_nat (a b : Nat) (ha : a < 9223372036854775808) (hb : b < 9223372036854775808) : bits .xor .i64 (a : Int) (b : Int) = ((a ^^^ b : Nat) : Int) := by
  have hx : a ^^^ b < 2 ^ 63 := Nat.xor_lt_two_pow (by omega) (by omega)
  show IntKind.i64.wrap ((BitVec.ofInt 64 (a : Int) ^^^ BitVec.ofInt 64 (b : Int)).toNat : Int) = _
  rw [BitVec.toNat_xor, ofInt_i64 a ha, ofInt_i64 b hb]
  rw [IntKind.wrap_i64]
  omega
theorem bits_other {k t b : Int} (h : 0 ≤ k ∧ k < fnvSize b ∧ 1 ≤ t ∧ t ≤ 255) : bits .xor .i64 k (bits .and .i64 (t * 1540483477) (fnvSize b - 1)) = fnvOther k t b := by
  have hb := (fnvSize_iff b).1 (by omega)
  have hp := fnvSize_pos hb.1 hb.2
  have hq := fnvSize_bd b
  rw [fnvOther_in h, show t * 1540483477 = ((t.toNat * 1540483477 : Nat) : Int) by omega, show fnvSize b - 1 = (((fnvSize b - 1).toNat : Nat) : Int) by omega,
    i64_and_nat _ _ (by omega) (by omega), and_size hb.1 hb.2]
  have hm := Nat.mod_lt (t.toNat * 1540483477) (show 0 < (fnvSize b).toNat by omega)
  rw [show k = ((k.toNat : Nat) : Int) by omega, i64_xor_nat _ _ (by omega) (by omega), Int.toNat_natCast]
theorem xor_other {k t b : Int} (h : 0 ≤ k ∧ k < fnvSize b ∧ 1 ≤ t ∧ t ≤ 255) : bits .xor .i64 k (t * 1540483477 % fnvSize b) = fnvOther k t b := by
  have hb := (fnvSize_iff b).1 (by omega)
  have hp := fnvSize_pos hb.1 hb.2
  have hq := fnvSize_bd b
  have hm := Nat.mod_lt (t.toNat * 1540483477) (show 0 < (fnvSize b).toNat by omega)
  have e : t * 1540483477 % fnvSize b = ((t.toNat * 1540483477 % (fnvSize b).toNat : Nat) : Int) := by
    rw [Int.natCast_emod, Int.toNat_of_nonneg hq.1, show t * 1540483477 = ((t.toNat * 1540483477 : Nat) : Int) by omega]
  rw [e, fnvOther_in h]
  conv => lhs; rw [show k = ((k.toNat : Nat) : Int) by omega]
  rw [i64_xor_nat _ _ (by omega) (by omega)]
theorem mod_size_bd {b x : Int} (h : 1 ≤ fnvSize b) : 0 ≤ x % fnvSize b ∧ x % fnvSize b < fnvSize b := ⟨Int.emod_nonneg _ (by omega), Int.emod_lt_of_pos _ (by omega)⟩
end Go.Proofs.YtijifjiehldcaaaGreat
