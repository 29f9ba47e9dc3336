/- Layer 2, plain. -/
import Derived.Test.YthbodknlhkapdaaGreatBaA
import Derived.Test.YthbodknlhkapdaaGreatBaC
import Derived.Test.YthbodknlhkapdaaGreatBaB
import Derived.Deep.AppendLies
import Derived.Deep.RegionHeld3
import Derived.Deep.RegionWith
import Derived.Laws.AppendOwnNone
import Derived.Laws.BitsAllLaws
import Derived.Test.YthbodknlhkapdaaGreatRows
namespace Go.Proofs.YthbodknlhkapdaaGreat
set_option linter.unusedSimpArgs false
set_option linter.unusedVariables false
section
open Go.RowKit
def Abj (s : Int) : Int := if s = 0 then 1 else if s = 1 then 256 else if s = 2 then 65536 else 16777216
def Aay (w s : Int) : Int := if 0 ≤ s ∧ s ≤ 3 then w / Abj s % 256 else 0
def Acp (w s t : Int) : Int := if 0 ≤ s ∧ s ≤ 3 ∧ 0 ≤ t ∧ t ≤ 255 then w - Aay w s * Abj s + t * Abj s else w
def Aa5 (w : Int) : Int := if Aay w 0 = 0 then 0 else if Aay w 1 = 0 then 1 else if Aay w 2 = 0 then 2 else if Aay w 3 = 0 then 3 else -1
theorem Ae1 (w s : Int) : 0 ≤ Aay w s ∧ Aay w s ≤ 255 := by
 unfold Aay; split <;> omega
theorem Adw (w : Int) : -1 ≤ Aa5 w ∧ Aa5 w ≤ 3 := by
 unfold Aa5; repeat' split
 all_goals omega
theorem twU0 : Abj 0 = 1 := rfl
theorem twU1 : Abj 1 = 256 := rfl
theorem twU2 : Abj 2 = 65536 := rfl
theorem twU3 : Abj 3 = 16777216 := rfl
theorem Aoh (w : Int) : Aay w 0 = w % 256 := by simp [Aay, Abj]
theorem Aog (w : Int) : Aay w 1 = w / 256 % 256 := by simp [Aay, Abj]
theorem Aof (w : Int) : Aay w 2 = w / 65536 % 256 := by simp [Aay, Abj]
theorem Aoe (w : Int) : Aay w 3 = w / 16777216 % 256 := by simp [Aay, Abj]
theorem Afu {w s t : Int} (h0 : 0 ≤ w) (h1 : w < 18446744073709551616) : 0 ≤ Acp w s t ∧ Acp w s t < 18446744073709551616 := by
 unfold Acp
 split
 · rename_i h
   have hs : s = 0 ∨ s = 1 ∨ s = 2 ∨ s = 3 := by omega
   rcases hs with rfl | rfl | rfl | rfl
   · rw [Aoh, twU0]; omega
   · rw [Aog, twU1]; omega
   · rw [Aof, twU2]; omega
   rw [Aoe, twU3]; omega
 exact ⟨h0, h1⟩
theorem Asc (a k : Nat) (hk : k ≤ 24) (ha : a < 18446744073709551616) : a &&& (18446744073709551615 - 255 * 2 ^ k) = 2 ^ (k + 8) * (a / 2 ^ (k + 8)) + a % 2 ^ k := by
 have h255 : 255 * 2 ^ k < 2 ^ 64 := by
  have : 2 ^ k ≤ 2 ^ 24 := Nat.pow_le_pow_right (by decide) hk
  omega
 have e : 18446744073709551615 - 255 * 2 ^ k = 2 ^ 64 - (255 * 2 ^ k + 1) := by omega
 have hl : a % 2 ^ k < 2 ^ (k + 8) := Nat.lt_of_lt_of_le (Nat.mod_lt _ (Nat.two_pow_pos k)) (Nat.pow_le_pow_right (by decide) (by omega))
 refine Nat.eq_of_testBit_eq fun i => ?_
 rw [Nat.testBit_and, e, Nat.testBit_two_pow_sub_succ h255, Nat.testBit_two_pow_mul_add _ hl, Nat.testBit_mul_two_pow, show (255 : Nat) = 2 ^ 8 - 1 by rfl, Nat.testBit_two_pow_sub_one, Nat.testBit_mod_two_pow, Nat.testBit_div_two_pow]
 by_cases h1 : i < k
 · have h2 : i < k + 8 := by omega
   have h3 : i < 64 := by omega
   simp [h1, h2, h3]
 by_cases h2 : i < k + 8
 · have h4 : i - k < 8 := by omega
   have h5 : k ≤ i := by omega
   simp [h1, h2, h4, h5]
 have h4 : ¬ i - k < 8 := by omega
 have h5 : i - (k + 8) + (k + 8) = i := by omega
 by_cases h3 : i < 64
 · simp [h1, h2, h3, h4, h5]
 have h6 : a.testBit i = false := Nat.testBit_lt_two_pow (Nat.lt_of_lt_of_le ha (by rw [show 18446744073709551616 = 2 ^ 64 by rfl]; exact Nat.pow_le_pow_right (by decide) (by omega)))
 simp [h1, h2, h3, h4, h5, h6]
theorem Axq (a k t : Nat) (ht : t < 256) : (2 ^ (k + 8) * (a / 2 ^ (k + 8)) + a % 2 ^ k) ||| (t * 2 ^ k) = 2 ^ (k + 8) * (a / 2 ^ (k + 8)) + (2 ^ k * t + a % 2 ^ k) := by
 have hm : a % 2 ^ k < 2 ^ k := Nat.mod_lt _ (Nat.two_pow_pos k)
 have hl : a % 2 ^ k < 2 ^ (k + 8) := Nat.lt_of_lt_of_le hm (Nat.pow_le_pow_right (by decide) (by omega))
 have hl2 : 2 ^ k * t + a % 2 ^ k < 2 ^ (k + 8) := by
  have : 2 ^ k * t ≤ 2 ^ k * 255 := Nat.mul_le_mul_left _ (by omega)
  have e : 2 ^ (k + 8) = 2 ^ k * 256 := by rw [Nat.pow_add]
  omega
 refine Nat.eq_of_testBit_eq fun i => ?_
 rw [Nat.testBit_or, Nat.testBit_two_pow_mul_add _ hl, Nat.testBit_two_pow_mul_add _ hl2, Nat.testBit_two_pow_mul_add _ hm, Nat.testBit_mul_two_pow]
 by_cases h1 : i < k
 · have h2 : i < k + 8 := by omega
   have h3 : ¬ k ≤ i := by omega
   simp [h1, h2, h3]
 have h3 : k ≤ i := by omega
 by_cases h2 : i < k + 8
 · have h4 : (a % 2 ^ k).testBit i = false := Nat.testBit_lt_two_pow (Nat.lt_of_lt_of_le hm (Nat.pow_le_pow_right (by decide) h3))
   simp [h1, h2, h3, h4]
 have h4 : t.testBit (i - k) = false := Nat.testBit_lt_two_pow (Nat.lt_of_lt_of_le ht (by rw [show 256 = 2 ^ 8 by rfl]; exact Nat.pow_le_pow_right (by decide) (by omega)))
 simp [h1, h2, h3, h4]
theorem Auu (a k t : Nat) (hk : k ≤ 24) (ha : a < 18446744073709551616) (ht : t < 256) : (a &&& (18446744073709551615 - 255 * 2 ^ k)) ||| (t * 2 ^ k) = a - a / 2 ^ k % 256 * 2 ^ k + t * 2 ^ k := by
 rw [Asc a k hk ha, Axq a k t ht]
 have e : 2 ^ (k + 8) = 256 * 2 ^ k := by rw [Nat.pow_add, Nat.mul_comm]
 have h1 : a / 2 ^ (k + 8) = a / 2 ^ k / 256 := by rw [e, Nat.mul_comm, Nat.div_div_eq_div_mul]
 rw [h1, e]
 have h2 := Nat.div_add_mod a (2 ^ k)
 obtain ⟨u, hu⟩ := exq (2 ^ k)
 rw [← hu] at h2 ⊢
 obtain ⟨q, hq⟩ := exq (a / u)
 rw [← hq] at h2 ⊢
 have h3 := Nat.div_add_mod q 256
 obtain ⟨r, hr⟩ := exq (q / 256)
 obtain ⟨m, hm⟩ := exq (q % 256)
 rw [← hr, ← hm] at h3
 rw [← hr, ← hm]
 have h4 : a = 256 * u * r + (m * u + a % u) := by
  rw [← h2, ← h3]
  have : (u * (256 * r + m) + a % u) % u = a % u := by rw [Nat.mul_add_mod]; exact Nat.mod_mod _ _
  rw [h3, h2]
  rw [← h3] at h2
  rw [Nat.mul_add, Nat.mul_comm u m, ← Nat.mul_assoc, Nat.mul_comm u 256] at h2
  omega
 rw [Nat.mul_comm u t]
 omega
theorem Aft (x t : Int) (k : Nat) (hk : k ≤ 24) (x0 : 0 ≤ x) (x1 : x < 18446744073709551616) (t0 : 0 ≤ t) (t1 : t ≤ 255) :
 bits .or .u64 (bits .andNot .u64 x ((255 * 2 ^ k : Nat) : Int)) (t * ((2 ^ k : Nat) : Int)) = x - x / ((2 ^ k : Nat) : Int) % 256 * ((2 ^ k : Nat) : Int) + t * ((2 ^ k : Nat) : Int) := by
 obtain ⟨a, rfl⟩ := Int.eq_ofNat_of_zero_le x0
 obtain ⟨b, rfl⟩ := Int.eq_ofNat_of_zero_le t0
 have hp : 2 ^ k ≤ 2 ^ 24 := Nat.pow_le_pow_right (by decide) hk
 have hb : b * 2 ^ k ≤ 255 * 2 ^ k := Nat.mul_le_mul_right _ (by omega)
 rw [u64_andNot_nat a (255 * 2 ^ k) (by omega) (by omega)]
 rw [show ((b : Int) * ((2 ^ k : Nat) : Int)) = ((b * 2 ^ k : Nat) : Int) by rw [Int.natCast_mul]]
 rw [u64_or_nat _ _ (Nat.lt_of_le_of_lt Nat.and_le_left (by omega)) (by omega)]
 rw [Auu a k b hk (by omega) (by omega)]
 have hle : a / 2 ^ k % 256 * 2 ^ k ≤ a := by
  refine Nat.le_trans (Nat.mul_le_mul_right _ (Nat.mod_le _ _)) (Nat.div_mul_le_self _ _)
 rw [Int.natCast_add, Int.natCast_sub hle, Int.natCast_mul, Int.natCast_emod, Int.natCast_ediv]
 rfl
end
section
open Go.RowKit
def Ab0 (a v : Int) (s : AW) : AW := ⟨upd s.M a ((s.M a + v) % 18446744073709551616), s.n + 1, ⟨4, a, s.M a, (s.M a + v) % 18446744073709551616⟩, s.tk, s.ho, s.it, s.nt⟩
structure Otm where
 ln : Nat
 w : Int
structure Spt where
 b : Int
 q : Int
 s : Int
structure Spt.ok (p : Spt) : Prop where
 b0 : 1 ≤ p.b
 b1 : p.b ≤ 12
 q0 : 0 ≤ p.q
 q1 : p.q < Aac p.b
 s0 : 0 ≤ p.s
 s1 : p.s ≤ 3
def Spt.tags (p : Spt) : Int := Aai p.b p.q
def Spt.item (p : Spt) : Int := Aca p.b p.q p.s
def Spt.ver (p : Spt) : Int := Abm p.b p.q
theorem Spt.ok.q2 {p : Spt} (h : p.ok) : p.q < 4096 := by have := Aah p.b; have := h.q1; omega
theorem Spt.ok.tags {p : Spt} (h : p.ok) : 4096 ≤ p.tags ∧ p.tags < 4294967296 ∧ p.tags = 4096 + 8 * (Aac p.b + p.q) := by
 have h1 := Aah p.b
 have h2 := h.q0
 have h3 := h.q1
 unfold Spt.tags
 rw [Ab2 ⟨h2, h3⟩]
 omega
theorem Spt.ok.item {p : Spt} (h : p.ok) : 4096 ≤ p.item ∧ p.item < 4294967296 ∧ p.item = p.tags + 1 + p.s := by
 have h1 := h.tags
 have h2 := h.s0
 have h3 := h.s1
 unfold Spt.item
 rw [Afy ⟨h.q0, h.q1⟩ ⟨h2, h3⟩]
 have e : Aai p.b p.q = p.tags := rfl
 rw [e]
 have := Aah p.b
 have := h.q1
 omega
theorem Spt.ok.ver {p : Spt} (h : p.ok) : 64 ≤ p.ver ∧ p.ver < 128 := by
 unfold Spt.ver Abm
 rw [if_pos ⟨h.q0, h.q1⟩]
 omega
def Aa7 (o : Otm) : Bool := decide (3 ≤ o.ln)
def Aaj (p : Spt) (s : AW) (o : Otm) : AW × Otm :=
 if o.ln = 0 then (Aan p.tags s, ⟨1, s.M p.tags⟩)
 else if o.ln = 1 then (Aax p.tags (Acp o.w p.s 0) s, ⟨2, o.w⟩)
 else if o.ln = 2 then (Aax p.item 0 s, ⟨3, o.w⟩)
 else (s, o)
def Aap (p : Spt) (tag ref : Int) (s : AW) (o : Otm) : AW × Otm :=
 if o.ln = 0 then (Aax p.item ref s, ⟨1, o.w⟩)
 else if o.ln = 1 then (Aan p.tags s, ⟨2, s.M p.tags⟩)
 else if o.ln = 2 then (Aax p.tags (Acp o.w p.s tag) s, ⟨3, o.w⟩)
 else (s, o)
def i64 (x : Int) : Int := wrap64 x
end
section
open Go.RowKit
theorem Avc {h c : Int} (h0 : 0 ≤ h) (h1 : h < 18446744073709551616) (c0 : 0 ≤ c) (c1 : c < 256) : IntKind.u64.wrap (bits .xor .u64 h c * 1099511628211) = Acz h c := by
 rw [u64_xor h c h0 h1 c0 (by omega), IntKind.wrap_u64]
 unfold Acz
 omega
theorem Asu (s : ByteArray) (w : World) (hs : s.size ≤ maxLen) :
 Calls Tryz.prog 64 #[.string s] w fun e w' => e = .returned (.int .u64 (Acn s.data.toList)) ∧ w = w' := by
 unfold maxLen at hs
 go_enter Tryz.func64, Tryz.ntmps64
 go_wp2
 go_loop [3, 4] (fun h i => ∃ k : Nat, k ≤ s.size ∧ i = .int .i64 k ∧ h = .int .u64 (Acb 14695981039346656037 (s.data.toList.take k))) (fun _ i => s.size - (intOf i).toNat)
 case atStart => exact ⟨0, Nat.zero_le _, rfl, by simp [Aig]⟩
 obtain ⟨k, hk, rfl, rfl⟩ := hrel
 have hb := Agm 14695981039346656037 (s.data.toList.take k) (by decide) (by decide)
 by_cases hlt : k < s.size
 · have HS := hQd (show Acb 14695981039346656037 (s.data.toList.take (k + 1)) = Acz (Acb 14695981039346656037 (s.data.toList.take k)) (s[k].toNat : Int) by rw [Alh s k hlt, Ag3])
   have hc0 : (0 : Int) ≤ (s[k].toNat : Int) := by omega
   have hc1 : (s[k].toNat : Int) < 256 := by have := s[k].toNat_lt; omega
   have Hm := hQd (Avc hb.1 hb.2 hc0 hc1)
   go_wp2
   go_round
   case rel => exact ⟨k + 1, by omega, by go_num, by rw [HS.out, Hm.out]⟩
   case measure => simp [intOf]; omega
 go_wp2
 go_ret
 exact ⟨Aa6 (by rw [List.take_of_length_le (by simp; omega)]; rfl), rfl⟩
theorem Avh (h : Int) (k : Nat) : h / 2 ^ k / 2 = h / 2 ^ (k + 1) := by
 rw [Int.pow_succ, Int.ediv_ediv_of_nonneg (Int.pow_nonneg (by decide))]
theorem Ape (h : Int) (w : World) (h0 : 0 ≤ h) (h1 : h < 18446744073709551616) :
 Calls Tryz.prog 70 #[.int .u64 h] w fun e w' => e = .returned (.int .i64 (Ab3 h)) ∧ w = w' := by
 go_enter Tryz.func70, Tryz.ntmps70
 go_wp2
 go_loop [0, 3] (fun x i => ∃ k : Nat, k ≤ 56 ∧ i = .int .i64 k ∧ x = .int .u64 (h / 2 ^ k)) (fun _ i => 56 - (intOf i).toNat)
 case atStart => exact ⟨0, Nat.zero_le _, rfl, by simp⟩
 obtain ⟨k, hk, rfl, rfl⟩ := hrel
 have d0 : 0 ≤ h / 2 ^ k := Int.ediv_nonneg h0 (Int.pow_nonneg (by decide))
 have d1 : h / 2 ^ k < 18446744073709551616 := Int.lt_of_le_of_lt (Int.ediv_le_self _ h0) h1
 by_cases hlt : k < 56
 · have Hh := hQd (Avh h k)
   go_wp2
   go_round
   case rel => exact ⟨k + 1, by omega, by go_num, by rw [Hh.out]⟩
   case measure => simp [intOf]; omega
 obtain rfl : k = 56 := by omega
 have e := hQd (show h / 2 ^ 56 = h / 72057594037927936 from rfl)
 by_cases c : h / 2 ^ 56 = 0
 · have Hm := hQd (show (1 : Int) = Ab3 h from by unfold Ab3; rw [if_pos (by rw [← e.out, c]; decide)])
   have cb : (h / 2 ^ 56 == 0) = true := by rw [c]; rfl
   clear c
   go_wp2
   go_ret
   exact ⟨Aa6 Hm.out, rfl⟩
 have Hm := hQd (show h / 2 ^ 56 = Ab3 h from by unfold Ab3; rw [if_neg (by rw [← e.out]; omega), e.out])
 have cb : (h / 2 ^ 56 == 0) = false := beq_eq_false_iff_ne.2 c
 have d2 : h / 2 ^ 56 < 256 := by rw [e.out]; omega
 clear c
 go_wp2
 go_ret
 exact ⟨Aa6 Hm.out, rfl⟩
theorem Ab6 (b : Int) (w : World) (b0 : -9223372036854775808 ≤ b) (b1 : b ≤ 9223372036854775807) :
 Calls Tryz.prog 30 #[.int .i64 b] w fun e w' => e = .returned (.int .i64 (Aac b)) ∧ w = w' := by
 by_cases c : 1 ≤ b ∧ b ≤ 12
 · obtain ⟨c1, c2⟩ := c
   have Hs := hQd (Ad1 c1 c2)
   rw [Hs.out]
   obtain ⟨n, rfl⟩ := Int.eq_ofNat_of_zero_le (show 0 ≤ b by omega)
   go_enter Tryz.func30, Tryz.ntmps30
   go_wp2
   go_loop [3, 4] (fun x i => ∃ k : Nat, k ≤ n ∧ i = .int .i64 k ∧ x = .int .i64 (2 ^ k)) (fun _ i => n - (intOf i).toNat)
   case atStart => exact ⟨0, Nat.zero_le _, rfl, by simp⟩
   obtain ⟨k, hk, rfl, rfl⟩ := hrel
   have hp : (2 : Int) ^ k ≤ 4096 := by
    have := Nat.pow_le_pow_right (n := 2) (show 0 < 2 by decide) (show k ≤ 12 by omega)
    rw [show (2 : Int) ^ k = ((2 ^ k : Nat) : Int) from (Int.natCast_pow 2 _).symm]
    omega
   have hq : (0 : Int) ≤ 2 ^ k := Int.pow_nonneg (by decide)
   by_cases hlt : k < n
   · have Hh := hQd (show (2 : Int) ^ (k + 1) = 2 * 2 ^ k by rw [Int.pow_succ, Int.mul_comm])
     go_wp2
     go_round
     case rel => exact ⟨k + 1, by omega, by go_num, by rw [Hh.out]⟩
     case measure => simp [intOf]; omega
   go_wp2
   go_ret
   exact ⟨Aa6 (by rw [show k = n by omega]), rfl⟩
 rw [Acm (by omega)]
 by_cases c2 : b < 1
 · go_enter Tryz.func30, Tryz.ntmps30
   go_wp2
   go_ret
   exact ⟨rfl, rfl⟩
 have c3 : 12 < b := by omega
 go_enter Tryz.func30, Tryz.ntmps30
 go_wp2
 go_ret
 exact ⟨rfl, rfl⟩
theorem Aip (h b : Int) (w : World) (h0 : 0 ≤ h) (h1 : h < 18446744073709551616) (b0 : -9223372036854775808 ≤ b) (b1 : b ≤ 9223372036854775807) :
 Calls Tryz.prog 103 #[.int .u64 h, .int .i64 b] w fun e w' => e = .returned (.int .i64 (Aat h b)) ∧ w = w' := by
 have hs := Aah b
 by_cases c : 1 ≤ b ∧ b ≤ 12
 · have hp := Abf c.1 c.2
   have Hm := hQd (Aer (h := h) c.1 c.2)
   have hb := Aby (h := h) c.1 c.2
   rw [Hm.out] at hb ⊢
   have hz : (Aac b == 0) = false := by simp; omega
   clear c
   go_enter Tryz.func103, Tryz.ntmps103
   go_wp2_with (go_at_call 30; refine (Ab6 _ _ b0 b1).mono ?_; rintro e w' ⟨rfl, rfl⟩)
   go_ret
   exact ⟨rfl, rfl⟩
 have Hz := hQd (Acm (b := b) (by omega))
 have hz : (Aac b == 0) = true := by rw [Hz.out]; rfl
 rw [Af6 (by omega)]
 clear c
 go_enter Tryz.func103, Tryz.ntmps103
 go_wp2_with (go_at_call 30; refine (Ab6 _ _ b0 b1).mono ?_; rintro e w' ⟨rfl, rfl⟩)
 go_ret
 exact ⟨rfl, rfl⟩
theorem Ahp (k t b : Int) (w : World) (k0 : -9223372036854775808 ≤ k) (k1 : k ≤ 9223372036854775807) (t0 : -9223372036854775808 ≤ t) (t1 : t ≤ 9223372036854775807) (b0 : -9223372036854775808 ≤ b) (b1 : b ≤ 9223372036854775807) :
 Calls Tryz.prog 105 #[.int .i64 k, .int .i64 t, .int .i64 b] w fun e w' => e = .returned (.int .i64 (Aa8 k t b)) ∧ w = w' := by
 have hs := Aah b
 by_cases c : 0 ≤ k ∧ k < Aac b ∧ 1 ≤ t ∧ t ≤ 255
 · have Hm := hQd (Arg c)
   have hp : 1 ≤ Aac b := by omega
   have hm := Anq (x := t * 1540483477) hp
   obtain ⟨c1, c2, c3, c4⟩ := c
   go_enter Tryz.func105, Tryz.ntmps105
   go_wp2_with (go_at_call 30; refine (Ab6 _ _ b0 b1).mono ?_; rintro e w' ⟨rfl, rfl⟩)
   go_ret
   exact ⟨Aa6 Hm.out, rfl⟩
 rw [Ag2 c]
 by_cases c1 : k < 0
 · clear c
   go_enter Tryz.func105, Tryz.ntmps105
   go_wp2_with (go_at_call 30; refine (Ab6 _ _ b0 b1).mono ?_; rintro e w' ⟨rfl, rfl⟩)
   go_ret
   exact ⟨rfl, rfl⟩
 by_cases c2 : Aac b ≤ k
 · clear c
   go_enter Tryz.func105, Tryz.ntmps105
   go_wp2_with (go_at_call 30; refine (Ab6 _ _ b0 b1).mono ?_; rintro e w' ⟨rfl, rfl⟩)
   go_ret
   exact ⟨rfl, rfl⟩
 by_cases c3 : t < 1
 · clear c
   go_enter Tryz.func105, Tryz.ntmps105
   go_wp2_with (go_at_call 30; refine (Ab6 _ _ b0 b1).mono ?_; rintro e w' ⟨rfl, rfl⟩)
   go_ret
   exact ⟨rfl, rfl⟩
 have c4 : 255 < t := by omega
 clear c
 go_enter Tryz.func105, Tryz.ntmps105
 go_wp2_with (go_at_call 30; refine (Ab6 _ _ b0 b1).mono ?_; rintro e w' ⟨rfl, rfl⟩)
 go_ret
 exact ⟨rfl, rfl⟩
theorem Aqp (x : Int) (w : World) (x0 : 0 ≤ x) (x1 : x < 18446744073709551616) :
 Calls Tryz.prog 29 #[.int .u64 x] w fun e w' => e = .returned (.tuple #[.int .i64 (Aaz x), .int .i64 (Aav x)]) ∧ w = w' := by
 by_cases c1 : 1 ≤ x % 256 ∧ x % 256 ≤ 12
 · have Ho := hQd (show Aaz x = x % 256 from by unfold Aaz; rw [if_pos c1])
   obtain ⟨c1a, c1b⟩ := c1
   by_cases c3 : x / 256 % 256 ≤ 12
   · by_cases c2 : x / 256 % 256 = x % 256 + 1
     · have Hn := hQd (show Aav x = x / 256 % 256 from by unfold Aav; rw [if_pos ⟨by rw [Ho.out]; exact c2, c3⟩])
       have d2 : (x / 256 % 256 != x % 256 + 1) = false := by rw [c2]; simp
       rw [Ho.out, Hn.out]
       clear c2
       go_enter Tryz.func29, Tryz.ntmps29
       go_wp2
       go_ret2
       exact ⟨rfl, rfl⟩
     have Hn := hQd (show Aav x = 0 from by unfold Aav; rw [if_neg (by rw [Ho.out]; omega)])
     have d2 : (x / 256 % 256 != x % 256 + 1) = true := by rw [bne_iff_ne]; exact c2
     rw [Ho.out, Hn.out]
     clear c2
     go_enter Tryz.func29, Tryz.ntmps29
     go_wp2
     go_ret2
     exact ⟨rfl, rfl⟩
   have Hn := hQd (show Aav x = 0 from by unfold Aav; rw [if_neg (by omega)])
   have c3' : 12 < x / 256 % 256 := by omega
   rw [Ho.out, Hn.out]
   clear c3
   go_enter Tryz.func29, Tryz.ntmps29
   go_wp2
   go_ret2
   exact ⟨rfl, rfl⟩
 have Ho := hQd (show Aaz x = 1 from by unfold Aaz; rw [if_neg c1])
 have d0 : (x % 256 < 1) ∨ (¬ x % 256 < 1 ∧ 12 < x % 256) := by omega
 by_cases c3 : x / 256 % 256 ≤ 12
 · by_cases c2 : x / 256 % 256 = 2
   · have Hn := hQd (show Aav x = x / 256 % 256 from by unfold Aav; rw [if_pos ⟨by rw [Ho.out]; exact c2, by omega⟩])
     have d2 : (x / 256 % 256 != 2) = false := by rw [c2]; rfl
     rw [Ho.out, Hn.out]
     clear c2 c1
     rcases d0 with d0 | ⟨d0, d1⟩
     all_goals
      go_enter Tryz.func29, Tryz.ntmps29
      go_wp2
      go_ret2
      exact ⟨rfl, rfl⟩
   have Hn := hQd (show Aav x = 0 from by unfold Aav; rw [if_neg (by rw [Ho.out]; omega)])
   have d2 : (x / 256 % 256 != 2) = true := by rw [bne_iff_ne]; exact c2
   rw [Ho.out, Hn.out]
   clear c2 c1
   rcases d0 with d0 | ⟨d0, d1⟩
   all_goals
    go_enter Tryz.func29, Tryz.ntmps29
    go_wp2
    go_ret2
    exact ⟨rfl, rfl⟩
 have Hn := hQd (show Aav x = 0 from by unfold Aav; rw [if_neg (by omega)])
 have c3' : 12 < x / 256 % 256 := by omega
 rw [Ho.out, Hn.out]
 clear c3 c1
 rcases d0 with d0 | ⟨d0, d1⟩
 all_goals
  go_enter Tryz.func29, Tryz.ntmps29
  go_wp2
  go_ret2
  exact ⟨rfl, rfl⟩
theorem Adq (b k : Int) (w : World) (b0 : -9223372036854775808 ≤ b) (b1 : b ≤ 9223372036854775807) (k0 : -9223372036854775808 ≤ k) (k1 : k ≤ 9223372036854775807) :
 Calls Tryz.prog 107 #[.agg #[.int .i64 b, .int .i64 k]] w fun e w' => e = .returned (.bool (decide (0 ≤ k ∧ k < Aac b))) ∧ Below w.heap.size w w' := by
 have hs := Aah b
 by_cases c1 : 0 ≤ k
 · have d1 : decide (0 ≤ k) = true := by simpa using c1
   by_cases c2 : k < Aac b
   · have d2 : decide (k < Aac b) = true := by simpa using c2
     rw [decide_eq_true (⟨c1, c2⟩ : 0 ≤ k ∧ k < Aac b)]
     go_enter Tryz.func107, Tryz.ntmps107
     go_wp2
     go_quiet ((go_at_call 30; exact Ack (Ab6 _ _ b0 b1)))
     go_wp2
     go_ret
     exact ⟨rfl, below_drewN (bal _ _) _⟩
   have d2 : decide (k < Aac b) = false := by simpa using c2
   rw [decide_eq_false (show ¬ (0 ≤ k ∧ k < Aac b) by omega)]
   go_enter Tryz.func107, Tryz.ntmps107
   go_wp2
   go_quiet ((go_at_call 30; exact Ack (Ab6 _ _ b0 b1)))
   go_wp2
   go_ret
   exact ⟨rfl, below_drewN (bal _ _) _⟩
 have d1 : decide (0 ≤ k) = false := by simpa using c1
 rw [decide_eq_false (show ¬ (0 ≤ k ∧ k < Aac b) by omega)]
 go_enter Tryz.func107, Tryz.ntmps107
 go_wp2
 go_quiet ((go_at_call 30; exact Ack (Ab6 _ _ b0 b1)))
 go_wp2
 go_ret
 exact ⟨rfl, below_drewN (bal _ _) _⟩
theorem Ac8 (b k : Int) (w : World) (b0 : -9223372036854775808 ≤ b) (b1 : b ≤ 9223372036854775807) (k0 : -9223372036854775808 ≤ k) (k1 : k ≤ 9223372036854775807) :
 Calls Tryz.prog 68 #[.agg #[.int .i64 b, .int .i64 k]] w fun e w' => e = .returned (.int .u64 (Aai b k)) ∧ Below w.heap.size w w' := by
 have hs := Aah b
 by_cases c : 0 ≤ k ∧ k < Aac b
 · have Ht := hQd (Ab2 c)
   have d := decide_eq_true c
   rw [Ht.out]
   obtain ⟨ca, cb⟩ := c
   go_enter Tryz.func68, Tryz.ntmps68
   go_wp2_with fail
   refine (Adq _ _ _ b0 b1 k0 k1).mono ?_
   rintro e w' ⟨rfl, hb⟩
   have q0 : w'.cell? ⟨w.heap.size, 0, none⟩ = some (.int .i64 b) := by rw [hb.cell (p := ⟨w.heap.size, 0, none⟩) (by simp)]; simp
   have q1 : w'.cell? ⟨w.heap.size, 1, none⟩ = some (.int .i64 k) := by rw [hb.cell (p := ⟨w.heap.size, 1, none⟩) (by simp)]; simp
   go_wp2_with fail
   go_quiet ((go_at_call 30; exact Ack (Ab6 _ _ b0 b1)))
   go_wp2
   go_ret
   exact ⟨Aa6 (by omega), below_drewN ((bal _ _).trans (hb.mono (by simp))) _⟩
 have d := decide_eq_false c
 rw [Ajl c]
 clear c
 go_enter Tryz.func68, Tryz.ntmps68
 go_wp2_with (go_at_call 107; refine (Adq _ _ _ b0 b1 k0 k1).mono ?_; rintro e w' ⟨rfl, hb⟩)
 go_ret
 exact ⟨rfl, (bal _ _).trans (hb.mono (by simp))⟩
theorem Adh (b k s : Int) (w : World) (b0 : -9223372036854775808 ≤ b) (b1 : b ≤ 9223372036854775807) (k0 : -9223372036854775808 ≤ k) (k1 : k ≤ 9223372036854775807) (s0 : -9223372036854775808 ≤ s) (s1 : s ≤ 9223372036854775807) :
 Calls Tryz.prog 71 #[.agg #[.int .i64 b, .int .i64 k, .int .i64 s]] w fun e w' => e = .returned (.int .u64 (Aca b k s)) ∧ Below w.heap.size w w' := by
 have hs := Aah b
 by_cases c : 0 ≤ k ∧ k < Aac b
 · have d := decide_eq_true c
   by_cases c2 : 0 ≤ s ∧ s ≤ 3
   · have Ht := hQd (Afy c c2)
     have hT : 0 ≤ Aai b k ∧ Aai b k ≤ 1000000 := by rw [Ab2 c]; omega
     obtain ⟨ca, cb⟩ := c2
     have d1 : decide (s < 0) = false := by simp; omega
     have d2 : decide (3 < s) = false := by simp; omega
     rw [Ht.out]
     clear c
     go_enter Tryz.func71, Tryz.ntmps71
     go_wp2_with fail
     refine (Adq _ _ _ b0 b1 k0 k1).mono ?_
     rintro e w' ⟨rfl, hb⟩
     have q0 : w'.cell? ⟨w.heap.size, 0, none⟩ = some (.int .i64 b) := by rw [hb.cell (p := ⟨w.heap.size, 0, none⟩) (by simp)]; simp
     have q1 : w'.cell? ⟨w.heap.size, 1, none⟩ = some (.int .i64 k) := by rw [hb.cell (p := ⟨w.heap.size, 1, none⟩) (by simp)]; simp
     have q2 : w'.cell? ⟨w.heap.size, 2, none⟩ = some (.int .i64 s) := by rw [hb.cell (p := ⟨w.heap.size, 2, none⟩) (by simp)]; simp
     have hB : Below w.heap.size w w' := (bal _ _).trans (hb.mono (by simp))
     have hz : w.heap.size < w'.heap.size := Nat.lt_of_lt_of_le (by simp) hb.size
     clear hb
     go_wp2_with fail
     refine Abh (by kernel_rfl) (by kernel_rfl) ?_
     repeat (go_big_quiet_step ((go_at_call 68; exact Auj (Ac8 _ _ _ b0 b1 k0 k1))))
     refine wpQuiet_nil ?_
     rintro _ ⟨e, rfl⟩
     go_wp2
     go_ret
     exact ⟨Aa6 (by omega), hB.trans ((Abv _ e).mono hB.size)⟩
   rw [Ae3 (by omega)]
   by_cases c3 : s < 0
   · have d1 : decide (s < 0) = true := by simp; omega
     clear c2 c
     go_enter Tryz.func71, Tryz.ntmps71
     go_wp2_with fail
     refine (Adq _ _ _ b0 b1 k0 k1).mono ?_
     rintro e w' ⟨rfl, hb⟩
     have q2 : w'.cell? ⟨w.heap.size, 2, none⟩ = some (.int .i64 s) := by rw [hb.cell (p := ⟨w.heap.size, 2, none⟩) (by simp)]; simp
     have hB : Below w.heap.size w w' := (bal _ _).trans (hb.mono (by simp))
     clear hb
     go_wp2_with fail
     go_ret
     exact ⟨rfl, hB⟩
   have d1 : decide (s < 0) = false := by simp; omega
   have d2 : decide (3 < s) = true := by simp; omega
   clear c2 c
   go_enter Tryz.func71, Tryz.ntmps71
   go_wp2_with fail
   refine (Adq _ _ _ b0 b1 k0 k1).mono ?_
   rintro e w' ⟨rfl, hb⟩
   have q2 : w'.cell? ⟨w.heap.size, 2, none⟩ = some (.int .i64 s) := by rw [hb.cell (p := ⟨w.heap.size, 2, none⟩) (by simp)]; simp
   have hB : Below w.heap.size w w' := (bal _ _).trans (hb.mono (by simp))
   clear hb
   go_wp2_with fail
   go_ret
   exact ⟨rfl, hB⟩
 have d := decide_eq_false c
 rw [Ae3 (by omega)]
 clear c
 go_enter Tryz.func71, Tryz.ntmps71
 go_wp2_with (go_at_call 107; refine (Adq _ _ _ b0 b1 k0 k1).mono ?_; rintro e w' ⟨rfl, hb⟩)
 go_ret
 exact ⟨rfl, (bal _ _).trans (hb.mono (by simp))⟩
def plc (p : Int × Int) : List Value := [.int .i64 p.1, .int .i64 p.2]
theorem Arx (p : Int × Int) : (plc p).length = 2 := rfl
theorem Aln {l : List (Int × Int)} {w : World} {b o : Nat} (h : ∀ j u, (Aa2 plc l)[j]? = some u → w.cell? ⟨b, o + j, none⟩ = some u) (i : Nat) (hi : i < l.length) :
 w.cell? ⟨b, o + i * 2, none⟩ = some (.int .i64 l[i].1) ∧ w.cell? ⟨b, o + i * 2 + 1, none⟩ = some (.int .i64 l[i].2) :=
 ⟨h _ _ (Abk Arx l i 0 hi (by omega)), h _ _ (Abk Arx l i 1 hi (by omega))⟩
theorem Axt {l : List (Int × Int)} {p q : Int × Int} {k : Nat} {hk : k < l.length} (hq : q = l[k]) (hno : ∀ j, (hj : j < l.length) → j < k → l[j] ≠ p) (h : ¬ q = p) : ∀ j, (hj : j < l.length) → j < k + 1 → l[j] ≠ p := by
 intro j hj hjk
 rcases Nat.lt_or_ge j k with h' | h'
 · exact hno j hj h'
 obtain rfl : j = k := by omega
 rw [← hq]; exact h
def Adb (out : List (Int × Int)) (p : Int × Int) : List (Int × Int) := if p ∈ out then out else out ++ [p]
def Afk (l : List (Int × Int)) : List (Int × Int) := l.foldl Adb []
theorem Ah5 (l : List (Int × Int)) (p : Int × Int) : Afk (l ++ [p]) = Adb (Afk l) p := by simp [Afk]
theorem Ajo (l : List (Int × Int)) : (Afk l).length ≤ l.length := by
 suffices ∀ out, (l.foldl Adb out).length ≤ out.length + l.length by simpa [Afk] using this []
 induction l with
 | nil => intro out; simp
 | cons a l ih =>
   intro out
   have := ih (Adb out a)
   have h2 : (Adb out a).length ≤ out.length + 1 := by unfold Adb; split <;> simp
   simp only [List.foldl_cons, List.length_cons]
   omega
def Adx (h b : Int) : List (Int × Int) := if 1 ≤ b ∧ b ≤ 12 then [(b, Aat h b), (b, Aa8 (Aat h b) (Ab3 h) b)] else []
theorem Ah4 {h b : Int} (h1 : 1 ≤ b) (h2 : b ≤ 12) : Adx h b = [(b, Aat h b), (b, Aa8 (Aat h b) (Ab3 h) b)] := by unfold Adx; rw [if_pos ⟨h1, h2⟩]
theorem Ajn {h b : Int} (h1 : b < 1 ∨ 12 < b) : Adx h b = [] := by unfold Adx; rw [if_neg (by omega)]
def Abs (h w : Int) : List (Int × Int) := Afk (Adx h (Aaz w) ++ Adx h (Aav w))
theorem Bar : (Tryz.prog.info? 93).map (fun i => (i.zero, i.size, i.bytes)) = some (some (.agg #[.int .i64 0, .int .i64 0]), 2, 16) := by kernel_rfl
end
section
open Go.RowKit
theorem below_drewN {B : Nat} {a w : World} (h : Below B a w) (n : Nat) : Below B a (w.drewN n) := ⟨h.os, h.tape, h.output, h.size, h.block⟩
theorem Auy {l : List (Int × Int)} {p : Int × Int} (h : p ∈ l) : Adb l p = l := by unfold Adb; rw [if_pos h]
theorem Akz (base : Nat) (l : List (Int × Int)) (n : Nat) (hn : n = l.length) (v : Value) (p : Int × Int) (w : World) (hown : w.ownsRow base 93 2 v n (Aa2 plc l)) (hb : base ≤ w.heap.size) (hl : n ≤ 1000) :
 Calls Tryz.prog 104 #[v, .agg #[.int .i64 p.1, .int .i64 p.2]] w fun e w' => (∃ v', e = .returned v' ∧ w'.ownsRow base 93 2 v' (Adb l p).length (Aa2 plc (Adb l p))) ∧ Below base w w' := by
 obtain ⟨i0, hi, hz0, hz1, hz2⟩ := info_parts Bar
 have hA := Arr.of_own hown
 obtain ⟨ao, cp, rfl, hcp, hm⟩ := hA.shape
 have hm' : n ≤ 9223372036854775807 := by omega
 go_enter Tryz.func104, Tryz.ntmps104
 go_wp2
 go_loopw [5] (fun i wr => ∃ k : Nat, k ≤ n ∧ i = .int .i64 k ∧ (∀ j, (hj : j < l.length) → j < k → l[j] ≠ p) ∧ Below (w.alloc (.cells #[.int .i64 p.1, .int .i64 p.2] 93)).heap.size (w.alloc (.cells #[.int .i64 p.1, .int .i64 p.2] 93)) wr)
  (fun i _ => n - (intOf i).toNat)
 case atStart => exact ⟨0, Nat.zero_le _, rfl, fun j _ hj => absurd hj (by omega), Below.refl _ _⟩
 obtain ⟨k, hk, rfl, hno, hbel⟩ := hrel
 have g0 : wr.cell? ⟨w.heap.size, 0, none⟩ = some (.int .i64 p.1) := (hbel.cell (p := ⟨w.heap.size, 0, none⟩) (by simp)).trans (by simp)
 have g1 : wr.cell? ⟨w.heap.size, 1, none⟩ = some (.int .i64 p.2) := (hbel.cell (p := ⟨w.heap.size, 1, none⟩) (by simp)).trans (by simp)
 have hown1 := Abi (hown.alloc _) hbel
 have hbel1 : Below base w wr := ((Below.refl _ _).alloc hb _).trans (hbel.mono (by simp; omega))
 have hsz : w.heap.size + 1 ≤ wr.heap.size := by have := hbel.size; simpa using this
 have hA1 := Arr.of_own hown1
 clear hown hA
 by_cases hk2 : k < n
 · obtain ⟨b, o, c', he, hcp, hm, hb, hx⟩ := hA1.open (by omega) (by omega)
   cases he
   subst hn
   obtain ⟨q0, q1⟩ := Aln hx k hk2
   obtain ⟨q, hq⟩ := exq (l[k])
   rw [← hq] at q0 q1
   have Hq := hQd hq
   have Hno := hQd hno
   clear hx hA1 hq hno
   by_cases hqp : q = p
   · subst hqp
     go_wp2
     go_quiet (fail)
     go_wp2
     go_ret
     exact ⟨⟨_, rfl, by rw [Auy (by rw [Hq.out]; exact List.getElem_mem _)]; exact hown1⟩, below_drewN hbel1 _⟩
   have e1 : (q.1 == p.1 && q.2 == p.2) = false := by
    by_cases h1 : q.1 = p.1
    · have h2 : q.2 ≠ p.2 := fun h2 => hqp (Prod.ext h1 h2)
      simp [h2]
    simp [h1]
   have Hqp := hQd hqp
   clear hqp
   by_cases h1 : q.1 = p.1
   all_goals
    first | (have h2 : (q.2 == p.2) = false := by simpa [h1] using e1) | (have h2 : (q.1 == p.1) = false := by simpa using h1)
    clear e1
    first | clear h1 | skip
    go_wp2
    go_quiet (fail)
    go_wp2
    go_roundw
    case rel => exact ⟨k + 1, by omega, by go_num, Axt Hq.out Hno.out Hqp.out, below_drewN hbel _⟩
    case measure => simp [intOf]; omega
 obtain rfl : k = n := by omega
 have hin : ¬ p ∈ l := by
  intro h
  obtain ⟨j, hj, e⟩ := List.getElem_of_mem h
  exact hno j hj (by omega) e
 have E : Adb l p = l ++ [p] := by unfold Adb; rw [if_neg hin]
 have HE := hQd E
 have Hn := hQd hn
 have hbs : base ≤ wr.heap.size := by omega
 clear hno hin E hn hA1
 go_wp2_with (at_builtin; refine Acf _ rfl _ _ 152 rfl base 93 i0 (.agg #[.int .i64 0, .int .i64 0]) 2 16 Tryz.underlying152 hi hz0 hz1 hz2 rfl (by decide) (by decide) _ _ _ rfl hown1 [.int .i64 p.1, .int .i64 p.2] _ rfl rfl (by simp [Value.oneCell']) (by omega) hbs ?_; intro g cap w2 hown2 hgr2; have hbel2 := Abq hbel1 hbs hown1 hgr2; clear hgr2)
 go_ret
 exact ⟨⟨_, rfl, by rw [HE.out, Abw, List.length_append, ← Hn.out]; exact hown2⟩, hbel2⟩
theorem Ase : (Tryz.prog.info? 3).map (fun i => (i.zero, i.size, i.bytes)) = some (some (.int .i64 0), 1, 8) := by kernel_rfl
theorem Alr (l : List (Int × Int)) (p : Int × Int) : (Adb l p).length ≤ l.length + 1 := by unfold Adb; split <;> simp
def Aeq (h : Int) (bs : List Int) (k : Nat) : List (Int × Int) := Afk ((bs.take k).flatMap (Adx h))
theorem Ajm (h : Int) (bs : List Int) (k : Nat) (b : Int) (hb : bs[k]? = some b) (b0 : 1 ≤ b) (b1 : b ≤ 12) : Aeq h bs (k + 1) = Adb (Adb (Aeq h bs k) (b, Aat h b)) (b, Aa8 (Aat h b) (Ab3 h) b) := by
 obtain ⟨hk, rfl⟩ := List.getElem?_eq_some_iff.1 hb
 unfold Aeq
 rw [List.take_succ_eq_append_getElem hk, List.flatMap_append, List.flatMap_singleton, Ah4 b0 b1, show ∀ (a : List (Int × Int)) (x y : Int × Int), a ++ [x, y] = a ++ [x] ++ [y] by simp, Ah5, Ah5]
theorem Alo (h : Int) (bs : List Int) (k : Nat) : (Aeq h bs k).length ≤ 2 * k := by
 unfold Aeq
 refine Nat.le_trans (Ajo _) ?_
 have : ∀ l : List Int, (l.flatMap (Adx h)).length ≤ 2 * l.length := by
  intro l
  induction l with
  | nil => simp
  | cons a l ih =>
    have : (Adx h a).length ≤ 2 := by unfold Adx; split <;> simp
    simp only [List.flatMap_cons, List.length_append, List.length_cons]
    omega
 have := this (bs.take k)
 have := List.length_take_le k bs
 omega
theorem Ar0 (h x : Int) (hc : Aav x = 0) : Aeq h [Aaz x] 1 = Abs h x := by
 unfold Aeq Abs
 rw [hc, Ajn (b := 0) (by omega)]
 simp
theorem Arz (h x : Int) : Aeq h [Aaz x, Aav x] 2 = Abs h x := by unfold Aeq Abs; simp
theorem Al8 (W : World) (cs : Array Value) (e : TypeId) (N j : Nat) (u : Value) (hN : N = W.heap.size) (hj : cs[j]? = some u) : (W.alloc (.cells cs e)).cell? ⟨N, j, none⟩ = some u := by
 subst hN
 unfold World.cell?
 rw [heap_alloc_new]
 simpa using hj
theorem Agz {w : World} {base base' : Nat} {e : TypeId} {size : Nat} {v : Value} {n : Nat} {xs : List Value} (h : w.ownsRow base e size v n xs) (hb : base' ≤ base) : w.ownsRow base' e size v n xs := by
 refine ⟨h.1, ?_⟩
 rcases h.2 with hn | ⟨g, cap, cur, hv, hbs, rest⟩
 · exact .inl hn
 exact .inr ⟨g, cap, cur, hv, Nat.le_trans hb hbs, rest⟩
theorem Ass (h x : Int) (w : World) (h0 : 0 ≤ h) (h1 : h < 18446744073709551616) (x0 : 0 ≤ x) (x1 : x < 18446744073709551616) :
 Calls Tryz.prog 66 #[.int .u64 h, .int .u64 x] w fun e w' => (∃ v', e = .returned v' ∧ w'.ownsRow w.heap.size 93 2 v' (Abs h x).length (Aa2 plc (Abs h x))) ∧ Below w.heap.size w w' := by
 have ho := Ae2 x
 have ht := Ad0 h h0 h1
 rcases Ah6 x with c | ⟨c, c12⟩
 · have HE := hQd (Ar0 h x c)
   have HBS : Hid (∀ z ∈ [Aaz x], 1 ≤ z ∧ z ≤ 12) := by intro z hz; simp at hz; omega
   go_enter Tryz.func66, Tryz.ntmps66
   go_wp2_with (first | (go_at_call 29; refine (Aqp _ _ x0 x1).mono ?_; rintro e w' ⟨rfl, rfl⟩))
   go_loopw [8, 9, 10] (fun vo i b wr => ∃ k : Nat, k ≤ 1 ∧ i = .int .i64 k ∧ wr.ownsRow (w.heap.size + 1) 93 2 vo (Aeq h [Aaz x] k).length (Aa2 plc (Aeq h [Aaz x] k)) ∧ Below w.heap.size w wr ∧ w.heap.size < wr.heap.size ∧ (∀ j z, [Aaz x][j]? = some z → wr.cell? ⟨w.heap.size, j, none⟩ = some (.int .i64 z)))
    (fun _ i _ _ => 1 - (intOf i).toNat)
   case atStart => exact ⟨0, Nat.zero_le _, rfl, World.ownsRow_nil _ _ _ _, bal _ _, by simp, by intro j z hj; match j, hj with | 0, hj => (cases hj; simp)⟩
   obtain ⟨k, hk, rfl, hown, hbel, hsz, hrow⟩ := hrel
   by_cases hk2 : k < 1
   · have hk3 : k < [Aaz x].length := hk2
     obtain ⟨z, hz⟩ : ∃ z, [Aaz x][k]? = some z := ⟨_, List.getElem?_eq_getElem hk3⟩
     obtain ⟨z0, z1⟩ := HBS.out z (List.mem_of_getElem? hz)
     have hc := hrow k z hz
     have HR := hQd (Ajm h [Aaz x] k z hz z0 z1)
     have hl0 := Alo h [Aaz x] k
     have hl1 := Alr (Aeq h [Aaz x] k) (z, Aat h z)
     obtain ⟨D, hD⟩ := exq (Aeq h [Aaz x] k)
     rw [← hD] at hown hl0 hl1
     have HD := hQd hD
     have Hrow := hQd hrow
     have hbk := Aby (h := h) z0 z1
     have hzs := Aah z
     have hB : w.heap.size + 1 ≤ wr.heap.size := by omega
     clear hD hrow hk3 hz
     go_wp2_with (first | (go_at_call 103; refine (Aip _ _ _ h0 h1 (by omega) (by omega)).mono ?_; rintro e w' ⟨rfl, rfl⟩) | (go_at_call 104; refine (Akz (w.heap.size + 1) D _ rfl _ (z, Aat h z) _ hown hB (by omega)).mono ?_; rintro e w1 ⟨⟨v1, rfl, hown1⟩, hb1⟩; have hc1 := (hb1.cell (p := ⟨w.heap.size, k, none⟩) (by simp)).trans hc; have hB1 := Nat.le_trans hB hb1.size; have hbel1 := hbel.trans (hb1.mono (by omega)); clear hown))
     go_region_held3 (fun w' => w'.cell? ⟨w.heap.size, k, none⟩ = some (.int .i64 z)) (first | go_keep | assumption)
      (first | (go_at_call 70; refine (Ape _ _ h0 h1).mono ?_; rintro e w' ⟨rfl, rfl⟩) | (go_at_call 105; refine (Ahp _ _ _ _ (by omega) (by omega) (by omega) (by omega) (by omega) (by omega)).mono ?_; rintro e w' ⟨rfl, rfl⟩) | (go_at_call 104; refine (Akz (w.heap.size + 1) (Adb D (z, Aat h z)) _ rfl _ (z, Aa8 (Aat h z) (Ab3 h) z) _ (by exact hown1) (by exact hB1) (by omega)).mono ?_; rintro e w3 ⟨⟨v3, rfl, hown3⟩, hb3⟩; have hc3 := (hb3.cell (p := ⟨w.heap.size, k, none⟩) (by simp)).trans hc1))
     all_goals
      go_wp2
      have hb13 : Below (w.heap.size + 1) wr w3 := by first | exact hb1.trans hb3 | exact hb1.drew.trans hb3
      go_roundw
      case rel => exact ⟨k + 1, by omega, by go_num, by rw [HR.out, ← HD.out]; exact hown3, hbel.trans (hb13.mono (by omega)), Nat.lt_of_lt_of_le hsz hb13.size, fun j y hj => (hb13.cell (p := ⟨w.heap.size, j, none⟩) (by simp)).trans (Hrow.out j y hj)⟩
      case measure => simp [intOf]; omega
   obtain rfl : k = 1 := by omega
   rw [HE.out] at hown
   clear hrow
   go_wp2
   go_ret
   exact ⟨⟨_, rfl, Agz hown (by omega)⟩, hbel⟩
 have HE := hQd (Arz h x)
 rw [c] at HE
 have HBS : Hid (∀ z ∈ [Aaz x, Aaz x + 1], 1 ≤ z ∧ z ≤ 12) := by intro z hz; simp at hz; omega
 go_enter Tryz.func66, Tryz.ntmps66
 go_wp2_with (first | (go_at_call 29; refine (Aqp _ _ x0 x1).mono ?_; rintro e w' ⟨rfl, rfl⟩))
 go_loopw [8, 9, 10] (fun vo i b wr => ∃ k : Nat, k ≤ 2 ∧ i = .int .i64 k ∧ wr.ownsRow (w.heap.size + 2 + 1) 93 2 vo (Aeq h [Aaz x, Aaz x + 1] k).length (Aa2 plc (Aeq h [Aaz x, Aaz x + 1] k)) ∧ Below w.heap.size w wr ∧ w.heap.size + 2 < wr.heap.size ∧ (∀ j z, [Aaz x, Aaz x + 1][j]? = some z → wr.cell? ⟨w.heap.size + 2, j, none⟩ = some (.int .i64 z)))
  (fun _ i _ _ => 2 - (intOf i).toNat)
 case atStart => exact ⟨0, Nat.zero_le _, rfl, World.ownsRow_nil _ _ _ _, (((bal _ _).alloc (by simp) _).alloc (by simp; omega) _).drew, by simp, by intro j z hj; match j, hj with | 0, hj => (cases hj; refine Al8 _ _ _ _ _ _ (by simp) ?_; simp [Array.getElem?_append]) | 1, hj => (cases hj; refine Al8 _ _ _ _ _ _ (by simp) ?_; simp [Array.getElem?_append])⟩
 obtain ⟨k, hk, rfl, hown, hbel, hsz, hrow⟩ := hrel
 by_cases hk2 : k < 2
 · have hk3 : k < [Aaz x, Aaz x + 1].length := hk2
   obtain ⟨z, hz⟩ : ∃ z, [Aaz x, Aaz x + 1][k]? = some z := ⟨_, List.getElem?_eq_getElem hk3⟩
   obtain ⟨z0, z1⟩ := HBS.out z (List.mem_of_getElem? hz)
   have hc := hrow k z hz
   have HR := hQd (Ajm h [Aaz x, Aaz x + 1] k z hz z0 z1)
   have hl0 := Alo h [Aaz x, Aaz x + 1] k
   have hl1 := Alr (Aeq h [Aaz x, Aaz x + 1] k) (z, Aat h z)
   obtain ⟨D, hD⟩ := exq (Aeq h [Aaz x, Aaz x + 1] k)
   rw [← hD] at hown hl0 hl1
   have HD := hQd hD
   have Hrow := hQd hrow
   have hbk := Aby (h := h) z0 z1
   have hzs := Aah z
   have hB : w.heap.size + 2 + 1 ≤ wr.heap.size := by omega
   clear hD hrow hk3 hz
   go_wp2_with (first | (go_at_call 103; refine (Aip _ _ _ h0 h1 (by omega) (by omega)).mono ?_; rintro e w' ⟨rfl, rfl⟩) | (go_at_call 104; refine (Akz (w.heap.size + 2 + 1) D _ rfl _ (z, Aat h z) _ hown hB (by omega)).mono ?_; rintro e w1 ⟨⟨v1, rfl, hown1⟩, hb1⟩; have hc1 := (hb1.cell (p := ⟨w.heap.size + 2, k, none⟩) (by simp)).trans hc; have hB1 := Nat.le_trans hB hb1.size; have hbel1 := hbel.trans (hb1.mono (by omega)); clear hown))
   go_region_held3 (fun w' => w'.cell? ⟨w.heap.size + 2, k, none⟩ = some (.int .i64 z)) (first | go_keep | assumption)
    (first | (go_at_call 70; refine (Ape _ _ h0 h1).mono ?_; rintro e w' ⟨rfl, rfl⟩) | (go_at_call 105; refine (Ahp _ _ _ _ (by omega) (by omega) (by omega) (by omega) (by omega) (by omega)).mono ?_; rintro e w' ⟨rfl, rfl⟩) | (go_at_call 104; refine (Akz (w.heap.size + 2 + 1) (Adb D (z, Aat h z)) _ rfl _ (z, Aa8 (Aat h z) (Ab3 h) z) _ (by exact hown1) (by exact hB1) (by omega)).mono ?_; rintro e w3 ⟨⟨v3, rfl, hown3⟩, hb3⟩; have hc3 := (hb3.cell (p := ⟨w.heap.size + 2, k, none⟩) (by simp)).trans hc1))
   all_goals
    go_wp2
    have hb13 : Below (w.heap.size + 2 + 1) wr w3 := by first | exact hb1.trans hb3 | exact hb1.drew.trans hb3
    go_roundw
    case rel => exact ⟨k + 1, by omega, by go_num, by rw [HR.out, ← HD.out]; exact hown3, hbel.trans (hb13.mono (by omega)), Nat.lt_of_lt_of_le hsz hb13.size, fun j y hj => (hb13.cell (p := ⟨w.heap.size + 2, j, none⟩) (by simp)).trans (Hrow.out j y hj)⟩
    case measure => simp [intOf]; omega
 obtain rfl : k = 2 := by omega
 rw [HE.out] at hown
 clear hrow
 go_wp2
 go_ret
 exact ⟨⟨_, rfl, Agz hown (by omega)⟩, hbel⟩
end
section
open Go.RowKit
theorem Alq (l : List (Int × Int)) (p : Int × Int) : 0 < (Adb l p).length := by
 unfold Adb
 split
 · rename_i h
   exact List.length_pos_of_mem h
 simp
theorem Asg (l : List (Int × Int)) : ∀ out : List (Int × Int), 0 < out.length → 0 < (l.foldl Adb out).length := by
 induction l with
 | nil => intro out h; exact h
 | cons a l ih => intro out h; exact ih _ (Alq _ _)
theorem Alp (h x : Int) : 0 < (Abs h x).length := by
 have ho := Ae2 x
 unfold Abs Afk
 rw [Ah4 ho.1 ho.2]
 exact Asg _ (Adb [] _) (Alq _ _)
theorem Ank (h x : Int) : (Abs h x).length ≤ 4 := by
 unfold Abs
 refine Nat.le_trans (Ajo _) ?_
 have : ∀ b, (Adx h b).length ≤ 2 := by intro b; unfold Adx; split <;> simp
 have h1 := this (Aaz x)
 have h2 := this (Aav x)
 rw [List.length_append]
 omega
theorem Ap8 (l : List (Int × Int)) (p : Int × Int) : p ∈ Afk l ↔ p ∈ l := by
 suffices ∀ out, p ∈ l.foldl Adb out ↔ p ∈ out ∨ p ∈ l by simpa [Afk] using this []
 induction l with
 | nil => intro out; simp
 | cons a l ih =>
   intro out
   rw [List.foldl_cons, ih]
   unfold Adb
   split
   · rename_i h
     constructor
     · rintro (h1 | h1)
       · exact .inl h1
       exact .inr (List.mem_cons_of_mem _ h1)
     rintro (h1 | h1)
     · exact .inl h1
     rcases List.mem_cons.1 h1 with rfl | h2
     · exact .inl h
     exact .inr h2
   simp only [List.mem_append, List.mem_singleton, List.mem_cons, List.not_mem_nil, or_assoc, false_or]
theorem Anl {h x : Int} (h0 : 0 ≤ h) (h1 : h < 18446744073709551616) {p : Int × Int} (hp : p ∈ Abs h x) : 1 ≤ p.1 ∧ p.1 ≤ 12 ∧ 0 ≤ p.2 ∧ p.2 < Aac p.1 := by
 have ht := Ad0 h h0 h1
 have hq : ∀ b, p ∈ Adx h b → 1 ≤ p.1 ∧ p.1 ≤ 12 ∧ 0 ≤ p.2 ∧ p.2 < Aac p.1 := by
  intro b hb
  by_cases hc : 1 ≤ b ∧ b ≤ 12
  · have hk := Aby (h := h) hc.1 hc.2
    rw [Ah4 hc.1 hc.2] at hb
    simp only [List.mem_cons, List.not_mem_nil, or_false] at hb
    rcases hb with rfl | rfl
    · exact ⟨hc.1, hc.2, hk.1, hk.2⟩
    have := Aeb (k := Aat h b) (t := Ab3 h) (b := b) ⟨hk.1, hk.2, ht.1, ht.2⟩
    exact ⟨hc.1, hc.2, this.1, this.2⟩
  rw [Ajn (by omega)] at hb; cases hb
 unfold Abs at hp
 rw [Ap8, List.mem_append] at hp
 rcases hp with hp | hp
 · exact hq _ hp
 exact hq _ hp
end
section
open Go.RowKit
theorem Av1 (b k : Int) (w : World) (k0 : -9223372036854775808 ≤ k) (k1 : k ≤ 9223372036854775807) (b0 : -9223372036854775808 ≤ b) (b1 : b ≤ 9223372036854775807) :
 Calls Tryz.prog 215 #[.agg #[.int .i64 b, .int .i64 k]] w fun e w' => e = .returned (.int .i64 (Aba b k)) ∧ Below w.heap.size w w' := by
 have hs := Aah b
 by_cases c : 0 ≤ k ∧ k < Aac b
 · have hb := (Ac0 b).1 (by omega)
   have Hm := hQd (show Aba b k = (k + 31 * b) % 64 from by unfold Aba; rw [if_pos c])
   obtain ⟨c1, c2⟩ := c
   obtain ⟨hb1, hb2⟩ := hb
   have d1 : decide (k < 0) = false := by simp; omega
   have d2 : decide (Aac b ≤ k) = false := by simp; omega
   rw [Hm.out]
   go_enter Tryz.func215, Tryz.ntmps215
   go_wp2
   go_quiet ((go_at_call 38; exact Ack (Acc _ _ b0 b1)))
   go_wp2
   go_ret
   exact ⟨rfl, below_drewN (bal _ _) _⟩
 have Hm := hQd (show Aba b k = -1 from by unfold Aba; rw [if_neg c])
 by_cases c1 : k < 0
 · have d1 : decide (k < 0) = true := by simp; omega
   clear c
   rw [Hm.out]
   go_enter Tryz.func215, Tryz.ntmps215
   go_wp2
   go_quiet ((go_at_call 38; exact Ack (Acc _ _ b0 b1)))
   go_wp2
   go_ret
   exact ⟨rfl, below_drewN (bal _ _) _⟩
 have d1 : decide (k < 0) = false := by simp; omega
 have d2 : decide (Aac b ≤ k) = true := by simp; omega
 clear c
 rw [Hm.out]
 go_enter Tryz.func215, Tryz.ntmps215
 go_wp2
 go_quiet ((go_at_call 38; exact Ack (Acc _ _ b0 b1)))
 go_wp2
 go_ret
 exact ⟨rfl, below_drewN (bal _ _) _⟩
/-! ### the hash, with its closure -/
theorem Asr (b k : Int) (w : World) (k0 : -9223372036854775808 ≤ k) (k1 : k ≤ 9223372036854775807) (b0 : -9223372036854775808 ≤ b) (b1 : b ≤ 9223372036854775807) :
 Calls Tryz.prog 181 #[.agg #[.int .i64 b, .int .i64 k]] w fun e w' => e = .returned (.int .i64 (Aba b k)) ∧ Below w.heap.size w w' := by
 have hs := Aah b
 by_cases c : 0 ≤ k ∧ k < Aac b
 · have hb := (Ac0 b).1 (by omega)
   have Hm := hQd (show Aba b k = (k + 31 * b) % 64 from by unfold Aba; rw [if_pos c])
   obtain ⟨c1, c2⟩ := c
   obtain ⟨hb1, hb2⟩ := hb
   have d1 : decide (k < 0) = false := by simp; omega
   have d2 : decide (Aac b ≤ k) = false := by simp; omega
   rw [Hm.out]
   go_enter Tryz.func181, Tryz.ntmps181
   go_wp2
   go_quiet ((go_at_call 30; exact Ack (Ab6 _ _ b0 b1)))
   go_wp2
   go_ret
   exact ⟨rfl, below_drewN (bal _ _) _⟩
 have Hm := hQd (show Aba b k = -1 from by unfold Aba; rw [if_neg c])
 by_cases c1 : k < 0
 · have d1 : decide (k < 0) = true := by simp; omega
   clear c
   rw [Hm.out]
   go_enter Tryz.func181, Tryz.ntmps181
   go_wp2
   go_quiet ((go_at_call 30; exact Ack (Ab6 _ _ b0 b1)))
   go_wp2
   go_ret
   exact ⟨rfl, below_drewN (bal _ _) _⟩
 have d1 : decide (k < 0) = false := by simp; omega
 have d2 : decide (Aac b ≤ k) = true := by simp; omega
 clear c
 rw [Hm.out]
 go_enter Tryz.func181, Tryz.ntmps181
 go_wp2
 go_quiet ((go_at_call 30; exact Ack (Ab6 _ _ b0 b1)))
 go_wp2
 go_ret
 exact ⟨rfl, below_drewN (bal _ _) _⟩
theorem Ait (b k : Int) (w : World) (b0 : -9223372036854775808 ≤ b) (b1 : b ≤ 9223372036854775807) (k0 : -9223372036854775808 ≤ k) (k1 : k ≤ 9223372036854775807) :
 Calls Tryz.prog 212 #[.agg #[.int .i64 b, .int .i64 k]] w fun e w' => e = .returned (.int .u64 (Abm b k)) ∧ Below w.heap.size w w' := by
 have hs := Aah b
 by_cases c : 0 ≤ k ∧ k < Aac b
 · have Ht := hQd (Agy c)
   have d := decide_eq_true c
   have hst : 0 ≤ Aba b k ∧ Aba b k < 64 := by unfold Aba; rw [if_pos c]; omega
   rw [Ht.out]
   obtain ⟨ca, cb⟩ := c
   go_enter Tryz.func212, Tryz.ntmps212
   go_wp2_with fail
   refine (Aev _ _ _ b0 b1 k0 k1).mono ?_
   rintro e w' ⟨rfl, hb⟩
   have q0 : w'.cell? ⟨w.heap.size, 0, none⟩ = some (.int .i64 b) := by rw [hb.cell (p := ⟨w.heap.size, 0, none⟩) (by simp)]; simp
   have q1 : w'.cell? ⟨w.heap.size, 1, none⟩ = some (.int .i64 k) := by rw [hb.cell (p := ⟨w.heap.size, 1, none⟩) (by simp)]; simp
   go_wp2_with (go_at_call 215; refine (Av1 _ _ _ k0 k1 b0 b1).mono ?_; rintro e w'' ⟨rfl, hb'⟩)
   go_ret
   exact ⟨rfl, ((bal _ _).trans (hb.mono (by simp))).trans (hb'.mono (Nat.le_trans (by simp) hb.size))⟩
 have d := decide_eq_false c
 rw [Afx c]
 clear c
 go_enter Tryz.func212, Tryz.ntmps212
 go_wp2_with (go_at_call 154; refine (Aev _ _ _ b0 b1 k0 k1).mono ?_; rintro e w' ⟨rfl, hb⟩)
 go_ret
 exact ⟨rfl, (bal _ _).trans (hb.mono (by simp))⟩
theorem At2 (b k s : Int) (w : World) (b0 : -9223372036854775808 ≤ b) (b1 : b ≤ 9223372036854775807) (k0 : -9223372036854775808 ≤ k) (k1 : k ≤ 9223372036854775807) (s0 : -9223372036854775808 ≤ s) (s1 : s ≤ 9223372036854775807) :
 Calls Tryz.prog 155 #[.agg #[.int .i64 b, .int .i64 k, .int .i64 s]] w fun e w' => e = .returned (.int .u64 (Aca b k s)) ∧ Below w.heap.size w w' := by
 have hs := Aah b
 by_cases c : 0 ≤ k ∧ k < Aac b
 · have d := decide_eq_true c
   by_cases c2 : 0 ≤ s ∧ s ≤ 3
   · have Ht := hQd (Afy c c2)
     have hT : 0 ≤ Aai b k ∧ Aai b k ≤ 1000000 := by rw [Ab2 c]; omega
     obtain ⟨ca, cb⟩ := c2
     have d1 : decide (s < 0) = false := by simp; omega
     have d2 : decide (4 ≤ s) = false := by simp; omega
     rw [Ht.out]
     clear c
     go_enter Tryz.func155, Tryz.ntmps155
     go_wp2_with fail
     refine (Aev _ _ _ b0 b1 k0 k1).mono ?_
     rintro e w' ⟨rfl, hb⟩
     have q0 : w'.cell? ⟨w.heap.size, 0, none⟩ = some (.int .i64 b) := by rw [hb.cell (p := ⟨w.heap.size, 0, none⟩) (by simp)]; simp
     have q1 : w'.cell? ⟨w.heap.size, 1, none⟩ = some (.int .i64 k) := by rw [hb.cell (p := ⟨w.heap.size, 1, none⟩) (by simp)]; simp
     have q2 : w'.cell? ⟨w.heap.size, 2, none⟩ = some (.int .i64 s) := by rw [hb.cell (p := ⟨w.heap.size, 2, none⟩) (by simp)]; simp
     have hB : Below w.heap.size w w' := (bal _ _).trans (hb.mono (by simp))
     have hz : w.heap.size < w'.heap.size := Nat.lt_of_lt_of_le (by simp) hb.size
     clear hb
     go_wp2_with fail
     refine Abh (by kernel_rfl) (by kernel_rfl) ?_
     repeat (go_big_quiet_step ((go_at_call 124; exact Auj (Aiu _ _ _ b0 b1 k0 k1))))
     refine wpQuiet_nil ?_
     rintro _ ⟨e, rfl⟩
     go_wp2
     go_ret
     exact ⟨rfl, hB.trans ((Abv _ e).mono hB.size)⟩
   rw [Ae3 (by omega)]
   by_cases c3 : s < 0
   · have d1 : decide (s < 0) = true := by simp; omega
     clear c2 c
     go_enter Tryz.func155, Tryz.ntmps155
     go_wp2_with fail
     refine (Aev _ _ _ b0 b1 k0 k1).mono ?_
     rintro e w' ⟨rfl, hb⟩
     have q2 : w'.cell? ⟨w.heap.size, 2, none⟩ = some (.int .i64 s) := by rw [hb.cell (p := ⟨w.heap.size, 2, none⟩) (by simp)]; simp
     have hB : Below w.heap.size w w' := (bal _ _).trans (hb.mono (by simp))
     clear hb
     go_wp2_with fail
     go_ret
     exact ⟨rfl, hB⟩
   have d1 : decide (s < 0) = false := by simp; omega
   have d2 : decide (4 ≤ s) = true := by simp; omega
   clear c2 c
   go_enter Tryz.func155, Tryz.ntmps155
   go_wp2_with fail
   refine (Aev _ _ _ b0 b1 k0 k1).mono ?_
   rintro e w' ⟨rfl, hb⟩
   have q2 : w'.cell? ⟨w.heap.size, 2, none⟩ = some (.int .i64 s) := by rw [hb.cell (p := ⟨w.heap.size, 2, none⟩) (by simp)]; simp
   have hB : Below w.heap.size w w' := (bal _ _).trans (hb.mono (by simp))
   clear hb
   go_wp2_with fail
   go_ret
   exact ⟨rfl, hB⟩
 have d := decide_eq_false c
 rw [Ae3 (by omega)]
 clear c
 go_enter Tryz.func155, Tryz.ntmps155
 go_wp2_with (go_at_call 154; refine (Aev _ _ _ b0 b1 k0 k1).mono ?_; rintro e w' ⟨rfl, hb⟩)
 go_ret
 exact ⟨rfl, (bal _ _).trans (hb.mono (by simp))⟩
theorem Agp (b k : Int) (w : World) (b0 : -9223372036854775808 ≤ b) (b1 : b ≤ 9223372036854775807) (k0 : -9223372036854775808 ≤ k) (k1 : k ≤ 9223372036854775807) :
 Calls Tryz.prog 164 #[.agg #[.int .i64 b, .int .i64 k]] w fun e w' => e = .returned (.int .u64 (Abm b k)) ∧ Below w.heap.size w w' := by
 have hs := Aah b
 by_cases c : 0 ≤ k ∧ k < Aac b
 · have Ht := hQd (Agy c)
   have d := decide_eq_true c
   have hst : 0 ≤ Aba b k ∧ Aba b k < 64 := by unfold Aba; rw [if_pos c]; omega
   rw [Ht.out]
   obtain ⟨ca, cb⟩ := c
   go_enter Tryz.func164, Tryz.ntmps164
   go_wp2_with fail
   refine (Adq _ _ _ b0 b1 k0 k1).mono ?_
   rintro e w' ⟨rfl, hb⟩
   have q0 : w'.cell? ⟨w.heap.size, 0, none⟩ = some (.int .i64 b) := by rw [hb.cell (p := ⟨w.heap.size, 0, none⟩) (by simp)]; simp
   have q1 : w'.cell? ⟨w.heap.size, 1, none⟩ = some (.int .i64 k) := by rw [hb.cell (p := ⟨w.heap.size, 1, none⟩) (by simp)]; simp
   go_wp2_with (go_at_call 181; refine (Asr _ _ _ k0 k1 b0 b1).mono ?_; rintro e w'' ⟨rfl, hb'⟩)
   go_ret
   exact ⟨rfl, ((bal _ _).trans (hb.mono (by simp))).trans (hb'.mono (Nat.le_trans (by simp) hb.size))⟩
 have d := decide_eq_false c
 rw [Afx c]
 clear c
 go_enter Tryz.func164, Tryz.ntmps164
 go_wp2_with (go_at_call 107; refine (Adq _ _ _ b0 b1 k0 k1).mono ?_; rintro e w' ⟨rfl, hb⟩)
 go_ret
 exact ⟨rfl, (bal _ _).trans (hb.mono (by simp))⟩
end
section
open Go.RowKit
structure Row (w : World) (O : Om) (t : Nat) (E : TypeId) (size : Nat) (v : Value) (n : Nat) (xs : List Value) : Prop where
 own : w.ownsRow 0 E size v n xs
 vo : ∀ k, v.ownBlock = some k → O k = t
theorem Row.nil (w : World) (O : Om) (t : Nat) (E : TypeId) (size : Nat) : Row w O t E size (.slice none 0 0) 0 [] := ⟨World.ownsRow_nil _ _ _ _, fun k h => by cases h⟩
theorem Row.ext {S : Nat → Prop} {O O' : Om} {w w' : World} {t size n : Nat} {E : TypeId} {v : Value} {xs : List Value} (h : Row w O t E size v n xs) (e : Ext S O w O' w') (hs : ¬ S t := by omega) : Row w' O' t E size v n xs :=
 ⟨e.own h.own fun k hk => by rw [h.vo k hk]; exact hs, fun k hk => (e.lo k (h.own.lt k hk).2).trans (h.vo k hk)⟩
theorem Row.below {O : Om} {w w' : World} {t size n : Nat} {E : TypeId} {v : Value} {xs : List Value} (h : Row w O t E size v n xs) (hb : Below w.heap.size w w') : Row w' O t E size v n xs :=
 ⟨Abi h.own hb, h.vo⟩
theorem Ace {P : Program} {ops : Array Oper} {rest : List Oper} {o : Oper} {a : Act} {Q : Exit → Act → World → Prop} (w : World) (hgd : o.guard = none) (s x : Operand) (ty : TypeId)
 (ho : o.op = .call { callee := .builtin .append, args := #[s, x], argTypes := #[ty, ty] })
 (e : TypeId) (i : TypeInfo) (z : Value) (size bytes : Nat) (ht : P.underlying ty = some (.slice e)) (hi : P.info? e = some i) (hz : i.zero = some z)
 (hsize : i.size = size) (hby : i.bytes = bytes) (hzs : z.cells.size = size) (hsz : 0 < size) (hbp : 0 < bytes)
 (O : Om) (t : Nat) (ht0 : t ≠ 0) (hhi : Hh O w)
 (v : Value) (n : Nat) (xs : List Value) (hs : a.eval s = v) (hrow : Row w O t e size v n xs)
 (cs : List Value) (e' : TypeId) (hx : a.eval x = .slice (some ⟨w.heap.size, 0, none⟩) 1 1) (hl : cs.length = size) (h1 : ∀ u ∈ cs, u.oneCell' = true)
 (hbytes : (n + 1) * bytes ≤ 140737488355328)
 (h : ∀ g cap w' O', Ext (fun j => j = t) O w O' w' → Row w' O' t e size (.slice (some ⟨g, 0, none⟩) (n + 1) cap) (n + 1) (xs ++ cs) → wpList P ops Q rest (a.put o.dst (.slice (some ⟨g, 0, none⟩) (n + 1) cap)) w') :
 wpList P ops Q (o :: rest) a (w.alloc (.cells cs.toArray e')) := by
 have hle : n + 1 ≤ (n + 1) * bytes := Nat.le_mul_of_pos_right _ hbp
 refine wpList_append_lies (w.alloc (.cells cs.toArray e')) hgd s x ty ho 0 e i z size bytes ht hi hz hsize hby hzs hsz v n xs hs (hrow.own.alloc _) ⟨w.heap.size, 0, none⟩ 1 1 cs hx (by rw [hl, Nat.one_mul]) (Afn w cs e' _ rfl) h1 (by decide) (by unfold maxLen; omega) hbytes (Nat.zero_le _) (w.heap.size + 1) (by simp) ?_
 intro g cap w' hown hg hat hgl
 have hw : Aag (fun k => v.ownBlock = some k) w w' := ((Aag.refl _ _).alloc _).grown hg fun k hk _ => hk
 have hs := hw.size
 have hG : ∀ j, j < w.heap.size → (if j = g then t else O j) = O j := fun j hj => by
  by_cases e : j = g
  · rw [if_pos e]
    rcases hat with e2 | e2
    · subst e; exact (hrow.vo j e2).symm
    omega
  rw [if_neg e]
 refine h g cap w' (fun j => if j = g then t else O j) ⟨hG, fun j hj => ?_, fun j hj hn => ?_, hw.mono fun k _ hk => ⟨hrow.vo k hk, by rw [hrow.vo k hk]; exact ht0⟩⟩ ⟨hown, fun k hk => ?_⟩
 · try dsimp only at hj
   by_cases e : j = g
   · omega
   rw [if_neg e] at hj; have := hhi j hj; omega
 · try dsimp only at hn ⊢
   by_cases e : j = g
   · rw [if_pos e]
   rw [if_neg e] at hn; have := hhi j hn; omega
 cases hk
 try dsimp only
 rw [if_pos rfl]
end
end Go.Proofs.YthbodknlhkapdaaGreat
