/- Layer 2, plain: four tags in one word; what the program's masks come to. Layers 12, 13, 23, plain: what a Mark, an Out, a Put and an Evict compute on a world. Contracts that other seats of ours hold too (taken by sub.py). Layer 12: contracts of a Mark of one place or two. Layer 2: contracts of both sides. Layer 13: contracts of an Out and a Put. Layer 23: an Evict's lines 1 to 6. A scope that is left by one goto, forward, to a label: what stands behind the label is walked from there. Layer 23: an Evict's lines 1 to 6. Layer 23: an Evict's line 5. Layer 23: an Evict's lines 7 to 12. Layer 23: an Evict's line 11; its step; what it got. -/
import Derived.Test.YtkpkhibknaoboaaGreatLib
import Derived.Laws.BitsAllLaws
import Derived.Test.YtkpkhibknaoboaaGreatTn1
import Derived.Test.YtkpkhibknaoboaaGreatPm
import Derived.Test.YtkpkhibknaoboaaGreatDo3
import Derived.Test.YtkpkhibknaoboaaGreatRow0
import Derived.Test.YtkpkhibknaoboaaGreatFlN
import Derived.Test.YtkpkhibknaoboaaGreatSl
import Derived.Test.YtkpkhibknaoboaaGreatPl2
import Derived.BigQuiet
import Derived.Laws.EntriesVeiled
import Derived.Shelf.Lay
import Derived.WalkMore
import Derived.ScopeJumps
import Derived.Test.YtkpkhibknaoboaaGreatMd
namespace Go.Proofs.YtkpkhibknaoboaaGreat
set_option linter.unusedSimpArgs false
section
open Go.RowKit
set_option linter.unusedVariables false

def twUnit (s : Int) : Int := if s = 0 then 1 else if s = 1 then 256 else if s = 2 then 65536 else 16777216
def twTag (w s : Int) : Int := if 0 ≤ s ∧ s ≤ 3 then w / twUnit s % 256 else 0
def twWith (w s t : Int) : Int := if 0 ≤ s ∧ s ≤ 3 ∧ 0 ≤ t ∧ t ≤ 255 then w - twTag w s * twUnit s + t * twUnit s else w
def twFree (w : Int) : Int := if twTag w 0 = 0 then 0 else if twTag w 1 = 0 then 1 else if twTag w 2 = 0 then 2 else if twTag w 3 = 0 then 3 else -1
theorem twTag_bd (w s : Int) : 0 ≤ twTag w s ∧ twTag w s ≤ 255 := by
  unfold twTag; split <;> omega
theorem twFree_bd (w : Int) : -1 ≤ twFree w ∧ twFree w ≤ 3 := by
  unfold twFree; repeat' split
  all_goals omega
theorem twU0 : twUnit 0 = 1 := rfl
theorem twU1 : twUnit 1 = 256 := rfl
theorem twU2 : twUnit 2 = 65536 := rfl
theorem twU3 : twUnit 3 = 16777216 := rfl
theorem twTag0 (w : Int) : twTag w 0 = w % 256 := by simp [twTag, twUnit]
theorem twTag1 (w : Int) : twTag w 1 = w / 256 % 256 := by simp [twTag, twUnit]
theorem twTag2 (w : Int) : twTag w 2 = w / 65536 % 256 := by simp [twTag, twUnit]
theorem twTag3 (w : Int) : twTag w 3 = w / 16777216 % 256 := by simp [twTag, twUnit]
theorem twWith_bd {w s t : Int} (h0 : 0 ≤ w) (h1 : w < 18446744073709551616) : 0 ≤ twWith w s t ∧ twWith w s t < 18446744073709551616 := by
  unfold twWith
  split
  · rename_i h
    have hs : s = 0 ∨ s = 1 ∨ s = 2 ∨ s = 3 := by omega
    rcases hs with rfl | rfl | rfl | rfl
    · rw [twTag0, twU0]; omega
    · rw [twTag1, twU1]; omega
    · rw [twTag2, twU2]; omega
    · rw [twTag3, twU3]; omega
  · exact ⟨h0, h1⟩
theorem mask_byte (a k : Nat) (hk : k ≤ 24) (ha : a < 18446744073709551616) : a &&& (18446744073709551615 - 255 * 2 ^ k) = 2 ^ (k + 8) * (a / 2 ^ (k + 8)) + a % 2 ^ k := by
  have h255 : 255 * 2 ^ k < 2 ^ 64 := by
    have : 2 ^ k ≤ 2 ^ 24 := Nat.pow_le_pow_right (by decide) hk
    omega
  have e : 18446744073709551615 - 255 * 2 ^ k = 2 ^ 64 - (255 * 2 ^ k + 1) := by omega
  have hl : a % 2 ^ k < 2 ^ (k + 8) := Nat.lt_of_lt_of_le (Nat.mod_lt _ (Nat.two_pow_pos k)) (Nat.pow_le_pow_right (by decide) (by omega))
  refine Nat.eq_of_testBit_eq fun i => ?_
  rw [Nat.testBit_and, e, Nat.testBit_two_pow_sub_succ h255, Nat.testBit_two_pow_mul_add _ hl, Nat.testBit_mul_two_pow, show (255 : Nat) = 2 ^ 8 - 1 by rfl, Nat.testBit_two_pow_sub_one, Nat.testBit_mod_two_pow, Nat.testBit_div_two_pow]
  by_cases h1 : i < k
  · have h2 : i < k + 8 := by omega
    have h3 : i < 64 := by omega
    simp [h1, h2, h3]
  · by_cases h2 : i < k + 8
    · have h4 : i - k < 8 := by omega
      have h5 : k ≤ i := by omega
      simp [h1, h2, h4, h5]
    · have h4 : ¬ i - k < 8 := by omega
      have h5 : i - (k + 8) + (k + 8) = i := by omega
      by_cases h3 : i < 64
      · simp [h1, h2, h3, h4, h5]
      · have h6 : a.testBit i = false := Nat.testBit_lt_two_pow (Nat.lt_of_lt_of_le ha (by rw [show 18446744073709551616 = 2 ^ 64 by rfl]; exact Nat.pow_le_pow_right (by decide) (by omega)))
        simp [h1, h2, h3, h4, h5, h6]
theorem or_byte (a k t : Nat) (ht : t < 256) : (2 ^ (k + 8) * (a / 2 ^ (k + 8)) + a % 2 ^ k) ||| (t * 2 ^ k) = 2 ^ (k + 8) * (a / 2 ^ (k + 8)) + (2 ^ k * t + a % 2 ^ k) := by
  have hm : a % 2 ^ k < 2 ^ k := Nat.mod_lt _ (Nat.two_pow_pos k)
  have hl : a % 2 ^ k < 2 ^ (k + 8) := Nat.lt_of_lt_of_le hm (Nat.pow_le_pow_right (by decide) (by omega))
  have hl2 : 2 ^ k * t + a % 2 ^ k < 2 ^ (k + 8) := by
    have : 2 ^ k * t ≤ 2 ^ k * 255 := Nat.mul_le_mul_left _ (by omega)
    have e : 2 ^ (k + 8) = 2 ^ k * 256 := by rw [Nat.pow_add]
    omega
  refine Nat.eq_of_testBit_eq fun i => ?_
  rw [Nat.testBit_or, Nat.testBit_two_pow_mul_add _ hl, Nat.testBit_two_pow_mul_add _ hl2, Nat.testBit_two_pow_mul_add _ hm, Nat.testBit_mul_two_pow]
  by_cases h1 : i < k
  · have h2 : i < k + 8 := by omega
    have h3 : ¬ k ≤ i := by omega
    simp [h1, h2, h3]
  · have h3 : k ≤ i := by omega
    by_cases h2 : i < k + 8
    · have h4 : (a % 2 ^ k).testBit i = false := Nat.testBit_lt_two_pow (Nat.lt_of_lt_of_le hm (Nat.pow_le_pow_right (by decide) h3))
      simp [h1, h2, h3, h4]
    · have h4 : t.testBit (i - k) = false := Nat.testBit_lt_two_pow (Nat.lt_of_lt_of_le ht (by rw [show 256 = 2 ^ 8 by rfl]; exact Nat.pow_le_pow_right (by decide) (by omega)))
      simp [h1, h2, h3, h4]
theorem put_byte (a k t : Nat) (hk : k ≤ 24) (ha : a < 18446744073709551616) (ht : t < 256) : (a &&& (18446744073709551615 - 255 * 2 ^ k)) ||| (t * 2 ^ k) = a - a / 2 ^ k % 256 * 2 ^ k + t * 2 ^ k := by
  rw [mask_byte a k hk ha, or_byte a k t ht]
  have e : 2 ^ (k + 8) = 256 * 2 ^ k := by rw [Nat.pow_add, Nat.mul_comm]
  have h1 : a / 2 ^ (k + 8) = a / 2 ^ k / 256 := by rw [e, Nat.mul_comm, Nat.div_div_eq_div_mul]
  rw [h1, e]
  have h2 := Nat.div_add_mod a (2 ^ k)
  obtain ⟨u, hu⟩ : ∃ u, u = 2 ^ k := ⟨_, rfl⟩
  rw [← hu] at h2 ⊢
  obtain ⟨q, hq⟩ : ∃ q, q = a / u := ⟨_, rfl⟩
  rw [← hq] at h2 ⊢
  have h3 := Nat.div_add_mod q 256
  obtain ⟨r, hr⟩ : ∃ r, r = q / 256 := ⟨_, rfl⟩
  obtain ⟨m, hm⟩ : ∃ m, m = q % 256 := ⟨_, rfl⟩
  rw [← hr, ← hm] at h3
  rw [← hr, ← hm]
  have h4 : a = 256 * u * r + (m * u + a % u) := by
    rw [← h2, ← h3]
    have : (u * (256 * r + m) + a % u) % u = a % u := by rw [Nat.mul_add_mod]; exact Nat.mod_mod _ _
    rw [h3, h2] 
    rw [← h3] at h2
    rw [Nat.mul_add, Nat.mul_comm u m, ← Nat.mul_assoc, Nat.mul_comm u 256] at h2
    omega
  rw [Nat.mul_comm u t]
  omega
theorem with_bits (x t : Int) (k : Nat) (hk : k ≤ 24) (x0 : 0 ≤ x) (x1 : x < 18446744073709551616) (t0 : 0 ≤ t) (t1 : t ≤ 255) :
    bits .or .u64 (bits .andNot .u64 x ((255 * 2 ^ k : Nat) : Int)) (t * ((2 ^ k : Nat) : Int)) = x - x / ((2 ^ k : Nat) : Int) % 256 * ((2 ^ k : Nat) : Int) + t * ((2 ^ k : Nat) : Int) := by
  obtain ⟨a, rfl⟩ := Int.eq_ofNat_of_zero_le x0
  obtain ⟨b, rfl⟩ := Int.eq_ofNat_of_zero_le t0
  have hp : 2 ^ k ≤ 2 ^ 24 := Nat.pow_le_pow_right (by decide) hk
  have hb : b * 2 ^ k ≤ 255 * 2 ^ k := Nat.mul_le_mul_right _ (by omega)
  rw [u64_andNot_nat a (255 * 2 ^ k) (by omega) (by omega)]
  rw [show ((b : Int) * ((2 ^ k : Nat) : Int)) = ((b * 2 ^ k : Nat) : Int) by rw [Int.natCast_mul]]
  rw [u64_or_nat _ _ (Nat.lt_of_le_of_lt Nat.and_le_left (by omega)) (by omega)]
  rw [put_byte a k b hk (by omega) (by omega)]
  have hle : a / 2 ^ k % 256 * 2 ^ k ≤ a := by
    refine Nat.le_trans (Nat.mul_le_mul_right _ (Nat.mod_le _ _)) (Nat.div_mul_le_self _ _)
  rw [Int.natCast_add, Int.natCast_sub hle, Int.natCast_mul, Int.natCast_emod, Int.natCast_ediv]
  rfl
end
section
open Go.RowKit
set_option linter.unusedVariables false

def awAdd (a v : Int) (s : AW) : AW := ⟨upd s.M a ((s.M a + v) % 18446744073709551616), s.n + 1, ⟨4, a, s.M a, (s.M a + v) % 18446744073709551616⟩, s.tk, s.ho, s.it, s.nt⟩
/-- An Out, or a Put: how many lines are behind it, the word it loaded. -/
structure Otm where
  ln : Nat
  w : Int
/-- A spot: bits, bucket, slot. -/
structure Spt where
  b : Int
  q : Int
  s : Int
structure Spt.ok (p : Spt) : Prop where
  b0 : 1 ≤ p.b
  b1 : p.b ≤ 12
  q0 : 0 ≤ p.q
  q1 : p.q < fnvSize p.b
  s0 : 0 ≤ p.s
  s1 : p.s ≤ 3
def Spt.tags (p : Spt) : Int := plTags p.b p.q
def Spt.item (p : Spt) : Int := plItem p.b p.q p.s
def Spt.ver (p : Spt) : Int := plVersion p.b p.q
theorem Spt.ok.q2 {p : Spt} (h : p.ok) : p.q < 4096 := by have := fnvSize_bd p.b; have := h.q1; omega
theorem Spt.ok.tags {p : Spt} (h : p.ok) : 4096 ≤ p.tags ∧ p.tags < 4294967296 ∧ p.tags = 4096 + 8 * (fnvSize p.b + p.q) := by
  have h1 := fnvSize_bd p.b
  have h2 := h.q0
  have h3 := h.q1
  unfold Spt.tags
  rw [plTags_in ⟨h2, h3⟩]
  omega
theorem Spt.ok.item {p : Spt} (h : p.ok) : 4096 ≤ p.item ∧ p.item < 4294967296 ∧ p.item = p.tags + 1 + p.s := by
  have h1 := h.tags
  have h2 := h.s0
  have h3 := h.s1
  unfold Spt.item
  rw [plItem_in ⟨h.q0, h.q1⟩ ⟨h2, h3⟩]
  have e : plTags p.b p.q = p.tags := rfl
  rw [e]
  have := fnvSize_bd p.b
  have := h.q1
  omega
theorem Spt.ok.ver {p : Spt} (h : p.ok) : 64 ≤ p.ver ∧ p.ver < 128 := by
  unfold Spt.ver plVersion
  rw [if_pos ⟨h.q0, h.q1⟩]
  omega
def otOver (o : Otm) : Bool := decide (3 ≤ o.ln)
def outStep (p : Spt) (s : AW) (o : Otm) : AW × Otm :=
  if o.ln = 0 then (awLoad p.tags s, ⟨1, s.M p.tags⟩)
  else if o.ln = 1 then (awStore p.tags (twWith o.w p.s 0) s, ⟨2, o.w⟩)
  else if o.ln = 2 then (awStore p.item 0 s, ⟨3, o.w⟩)
  else (s, o)
def putStep (p : Spt) (tag ref : Int) (s : AW) (o : Otm) : AW × Otm :=
  if o.ln = 0 then (awStore p.item ref s, ⟨1, o.w⟩)
  else if o.ln = 1 then (awLoad p.tags s, ⟨2, s.M p.tags⟩)
  else if o.ln = 2 then (awStore p.tags (twWith o.w p.s tag) s, ⟨3, o.w⟩)
  else (s, o)
/-- An Evict. -/
structure Evm where
  ln : Int
  t : Int
  h : Int
  n : Int
  ref : Int
  mw : Int
  o : Otm
def plAt (t n : Int) : Spt := ⟨plAtBits t n, plAtN t n / 4, n % plSpots t % 4⟩
theorem plAt_ok (t n : Int) : (plAt t n).ok := by
  have ho := plOld_bd t
  have hn := plNow_cases t
  have hs := plSpots_bd t
  have hm0 := Int.emod_nonneg n (show plSpots t ≠ 0 by omega)
  have hm1 := Int.emod_lt_of_pos n (show 0 < plSpots t by omega)
  have h1 := fnvSize_bd (plOld t)
  have h2 := fnvSize_bd (plNow t)
  have hd : plSpots t = 4 * (fnvSize (plOld t) + fnvSize (plNow t)) := rfl
  have hz : plNow t = 0 → fnvSize (plNow t) = 0 := fun e => by rw [e]; rfl
  constructor
  · show 1 ≤ plAtBits t n
    unfold plAtBits; split
    · omega
    · rcases hn with e | e
      · have := hz e; omega
      · omega
  · show plAtBits t n ≤ 12
    unfold plAtBits; split <;> omega
  · show 0 ≤ plAtN t n / 4
    unfold plAtN; split <;> omega
  · show plAtN t n / 4 < fnvSize (plAtBits t n)
    unfold plAtN plAtBits; split <;> omega
  · show 0 ≤ n % plSpots t % 4
    omega
  · show n % plSpots t % 4 ≤ 3
    omega
def evSpot (z : Evm) : Spt := plAt z.t (z.h + z.n)
def evOver (z : Evm) : Bool := z.ln == 0
def evNew : Evm := ⟨1, 0, 0, 0, 0, 0, ⟨0, 0⟩⟩
def i64 (x : Int) : Int := wrap64 x
/-- The next slot, or the end. -/
def evNext (z : Evm) : Evm := if z.n + 1 = 2 * plSpots z.t then ⟨11, z.t, z.h, z.n + 1, 0, z.mw, z.o⟩ else ⟨4, z.t, z.h, z.n + 1, z.ref, z.mw, z.o⟩
def evRef (s : AW) (z : Evm) : Int := wrap64 (s.M (evSpot z).item)
def evStep (x : AW × Evm) : AW × Evm :=
  if x.2.ln = 1 then (awStore 5 1 x.1, ⟨2, x.2.t, x.2.h, x.2.n, x.2.ref, x.2.mw, x.2.o⟩)
  else if x.2.ln = 2 then (awLoad 2 x.1, ⟨3, x.1.M 2, x.2.h, x.2.n, x.2.ref, x.2.mw, x.2.o⟩)
  else if x.2.ln = 3 then (awLoad 4 x.1, ⟨4, x.2.t, x.1.M 4 % plSpots x.2.t, 0, x.2.ref, x.2.mw, x.2.o⟩)
  else if x.2.ln = 4 then (awLoad (evSpot x.2).item x.1, if evRef x.1 x.2 = 0 then evNext ⟨4, x.2.t, x.2.h, x.2.n, 0, x.2.mw, x.2.o⟩ else ⟨5, x.2.t, x.2.h, x.2.n, evRef x.1 x.2, x.2.mw, x.2.o⟩)
  else if x.2.ln = 5 then (awLoad (plRef x.2.ref) x.1, ⟨if x.1.M (plRef x.2.ref) % 2 = 0 then 7 else 6, x.2.t, x.2.h, x.2.n, x.2.ref, x.1.M (plRef x.2.ref), ⟨0, 0⟩⟩)
  else if x.2.ln = 6 then (awStore (plRef x.2.ref) ((x.2.mw + 1) % 18446744073709551616) x.1, evNext x.2)
  else if x.2.ln = 7 then (awAdd (evSpot x.2).ver 1 x.1, ⟨8, x.2.t, x.2.h, x.2.n, x.2.ref, x.2.mw, x.2.o⟩)
  else if x.2.ln = 8 then
    (if x.2.o.ln = 1 then awNote 1 x.2.ref (evSpot x.2).b (evSpot x.2).q (evSpot x.2).s 0 (outStep (evSpot x.2) x.1 x.2.o).1 else (outStep (evSpot x.2) x.1 x.2.o).1,
      ⟨if x.2.o.ln = 2 then 9 else 8, x.2.t, x.2.h, x.2.n, x.2.ref, x.2.mw, (outStep (evSpot x.2) x.1 x.2.o).2⟩)
  else if x.2.ln = 9 then (awAdd (evSpot x.2).ver 1 x.1, ⟨10, x.2.t, x.2.h, x.2.n, x.2.ref, x.2.mw, x.2.o⟩)
  else if x.2.ln = 10 then (awAdd 6 18446744073709551615 x.1, ⟨11, x.2.t, x.2.h, x.2.n, x.2.ref, x.2.mw, x.2.o⟩)
  else if x.2.ln = 11 then
    (if x.2.ref = 0 then awNote 8 0 0 0 0 x.2.n (awStore 4 x.2.h x.1)
     else awNote 8 x.2.ref (evSpot x.2).b (evSpot x.2).q (evSpot x.2).s (x.2.n + 1) (awStore 4 ((x.2.h + x.2.n + 1) % plSpots x.2.t) x.1),
      ⟨12, x.2.t, x.2.h, x.2.n, x.2.ref, x.2.mw, x.2.o⟩)
  else if x.2.ln = 12 then (awStore 5 0 x.1, ⟨0, x.2.t, x.2.h, x.2.n, x.2.ref, x.2.mw, x.2.o⟩)
  else x
def evGot (z : Evm) : Int × Spt := if z.ln = 0 ∧ z.ref ≠ 0 then (z.ref, evSpot z) else (0, ⟨0, 0, 0⟩)
/-- What an Evict keeps to. -/
structure EvOk (z : Evm) : Prop where
  l0 : 0 ≤ z.ln
  l1 : z.ln ≤ 12
  t0 : 0 ≤ z.t
  t1 : z.t < 18446744073709551616
  h0 : 0 ≤ z.h
  h1 : 4 ≤ z.ln ∨ z.ln = 0 → z.h < 32768
  n0 : 0 ≤ z.n
  n1 : z.n ≤ 65536
  n2 : 4 ≤ z.ln ∧ z.ln ≤ 10 → z.n < 2 * plSpots z.t
  r0 : -9223372036854775808 ≤ z.ref
  r1 : z.ref ≤ 9223372036854775807
  m0 : 0 ≤ z.mw
  m1 : z.mw < 18446744073709551616
  w0 : 0 ≤ z.o.w
  w1 : z.o.w < 18446744073709551616
  o8 : z.ln = 7 ∨ z.ln = 8 → z.o.ln < 3
end
section
open Go.RowKit
set_option linter.unusedVariables false
theorem c_Stripe (b k : Int) (w : World) (k0 : -9223372036854775808 ≤ k) (k1 : k ≤ 9223372036854775807) (b0 : -9223372036854775808 ≤ b) (b1 : b ≤ 9223372036854775807) :
    Calls Tryz.prog 114 #[.agg #[.int .i64 b, .int .i64 k]] w fun e w' => e = .returned (.int .i64 (fnvStripe b k)) ∧ Below w.heap.size w w' := by
  have hs := fnvSize_bd b
  by_cases c : 0 ≤ k ∧ k < fnvSize b
  · have hb := (fnvSize_iff b).1 (by omega)
    have Hm := Lib.hid (show fnvStripe b k = (k + 31 * b) % 64 from by unfold fnvStripe; rw [if_pos c])
    obtain ⟨c1, c2⟩ := c
    obtain ⟨hb1, hb2⟩ := hb
    have d1 : decide (k < 0) = false := by simp; omega
    have d2 : decide (fnvSize b ≤ k) = false := by simp; omega
    rw [Hm.out]
    go_enter Tryz.func114, Tryz.ntmps114
    go_wp2
    go_quiet ((go_at_call 27; exact quietS (c_Size _ _ b0 b1)))
    go_wp2
    go_ret
    exact ⟨rfl, below_drewN ((Below.refl _ _).alloc (Nat.le_refl _) _) _⟩
  · have Hm := Lib.hid (show fnvStripe b k = -1 from by unfold fnvStripe; rw [if_neg c])
    by_cases c1 : k < 0
    · have d1 : decide (k < 0) = true := by simp; omega
      clear c
      rw [Hm.out]
      go_enter Tryz.func114, Tryz.ntmps114
      go_wp2
      go_quiet ((go_at_call 27; exact quietS (c_Size _ _ b0 b1)))
      go_wp2
      go_ret
      exact ⟨rfl, below_drewN ((Below.refl _ _).alloc (Nat.le_refl _) _) _⟩
    · have d1 : decide (k < 0) = false := by simp; omega
      have d2 : decide (fnvSize b ≤ k) = true := by simp; omega
      clear c
      rw [Hm.out]
      go_enter Tryz.func114, Tryz.ntmps114
      go_wp2
      go_quiet ((go_at_call 27; exact quietS (c_Size _ _ b0 b1)))
      go_wp2
      go_ret
      exact ⟨rfl, below_drewN ((Below.refl _ _).alloc (Nat.le_refl _) _) _⟩

/-! ### the hash, with its closure -/
theorem c_rStripe (b k : Int) (w : World) (k0 : -9223372036854775808 ≤ k) (k1 : k ≤ 9223372036854775807) (b0 : -9223372036854775808 ≤ b) (b1 : b ≤ 9223372036854775807) :
    Calls Tryz.prog 290 #[.agg #[.int .i64 b, .int .i64 k]] w fun e w' => e = .returned (.int .i64 (fnvStripe b k)) ∧ Below w.heap.size w w' := by
  have hs := fnvSize_bd b
  by_cases c : 0 ≤ k ∧ k < fnvSize b
  · have hb := (fnvSize_iff b).1 (by omega)
    have Hm := Lib.hid (show fnvStripe b k = (k + 31 * b) % 64 from by unfold fnvStripe; rw [if_pos c])
    obtain ⟨c1, c2⟩ := c
    obtain ⟨hb1, hb2⟩ := hb
    have d1 : decide (k < 0) = false := by simp; omega
    have d2 : decide (fnvSize b ≤ k) = false := by simp; omega
    rw [Hm.out]
    go_enter Tryz.func290, Tryz.ntmps290
    go_wp2
    go_quiet ((go_at_call 134; exact quietS (c_rSize _ _ b0 b1)))
    go_wp2
    go_ret
    exact ⟨rfl, below_drewN ((Below.refl _ _).alloc (Nat.le_refl _) _) _⟩
  · have Hm := Lib.hid (show fnvStripe b k = -1 from by unfold fnvStripe; rw [if_neg c])
    by_cases c1 : k < 0
    · have d1 : decide (k < 0) = true := by simp; omega
      clear c
      rw [Hm.out]
      go_enter Tryz.func290, Tryz.ntmps290
      go_wp2
      go_quiet ((go_at_call 134; exact quietS (c_rSize _ _ b0 b1)))
      go_wp2
      go_ret
      exact ⟨rfl, below_drewN ((Below.refl _ _).alloc (Nat.le_refl _) _) _⟩
    · have d1 : decide (k < 0) = false := by simp; omega
      have d2 : decide (fnvSize b ≤ k) = true := by simp; omega
      clear c
      rw [Hm.out]
      go_enter Tryz.func290, Tryz.ntmps290
      go_wp2
      go_quiet ((go_at_call 134; exact quietS (c_rSize _ _ b0 b1)))
      go_wp2
      go_ret
      exact ⟨rfl, below_drewN ((Below.refl _ _).alloc (Nat.le_refl _) _) _⟩
theorem c_Spots (x : Int) (w : World) (x0 : 0 ≤ x) (x1 : x < 18446744073709551616) :
    Calls Tryz.prog 47 #[.int .u64 x] w fun e w' => e = .returned (.int .i64 (plSpots x)) ∧ w = w' := by
  have ho := plOld_bd x
  have hn := plNow_bd x
  have h1 := fnvSize_bd (plOld x)
  have h2 := fnvSize_bd (plNow x)
  go_enter Tryz.func47, Tryz.ntmps47
  go_wp2_with (first | (go_at_call 21; refine (c_As _ _ x0 x1).mono ?_; rintro e w' ⟨rfl, rfl⟩) | (go_at_call 27; refine (c_Size _ _ (by omega) (by omega)).mono ?_; rintro e w' ⟨rfl, rfl⟩))
  go_ret
  exact ⟨rfl, rfl⟩

theorem c_At (x n : Int) (w : World) (x0 : 0 ≤ x) (x1 : x < 18446744073709551616) (n0 : -9223372036854775808 ≤ n) (n1 : n ≤ 9223372036854775807) :
    Calls Tryz.prog 48 #[.int .u64 x, .int .i64 n] w fun e w' => e = .returned (.agg #[.int .i64 (plAtBits x n), .int .i64 (plAtN x n / 4), .int .i64 (n % plSpots x % 4)]) ∧ Below w.heap.size w w' := by
  have ho := plOld_bd x
  have hn := plNow_bd x
  have h1 := fnvSize_bd (plOld x)
  have h2 := fnvSize_bd (plNow x)
  have hs := plSpots_bd x
  have t1 := Int.tmod_lt_of_pos n (show 0 < plSpots x by omega)
  have t2 := Int.lt_tmod_of_pos n (show 0 < plSpots x by omega)
  have m1 := Int.emod_nonneg n (show plSpots x ≠ 0 by omega)
  have m2 := Int.emod_lt_of_pos n (show 0 < plSpots x by omega)
  have e1 : (n.tmod (plSpots x) + plSpots x) % plSpots x = n % plSpots x := by
    rw [← Int.tmod_eq_emod_of_nonneg (by omega)]; exact round_mod (by omega)
  by_cases c : n % plSpots x < 4 * fnvSize (plOld x)
  · have Hb := Lib.hid (show plAtBits x n = plOld x by unfold plAtBits; rw [if_pos c])
    have Hn := Lib.hid (show plAtN x n = n % plSpots x by unfold plAtN; rw [if_pos c])
    rw [Hb.out, Hn.out]
    go_enter Tryz.func48, Tryz.ntmps48
    go_wp2_with (first | (go_at_call 21; refine (c_As _ _ x0 x1).mono ?_; rintro e w' ⟨rfl, rfl⟩) | (go_at_call 47; refine (c_Spots _ _ x0 x1).mono ?_; rintro e w' ⟨rfl, rfl⟩) | (go_at_call 27; refine (c_Size _ _ (by omega) (by omega)).mono ?_; rintro e w' ⟨rfl, rfl⟩))
    exact bodyPost_ret (v := .agg #[.int .i64 (plOld x), .int .i64 (n % plSpots x / 4), .int .i64 (n % plSpots x % 4)]) (by simp [results, Tryz.results48, go_sem]) rfl ⟨rfl, (Below.refl _ _).alloc (Nat.le_refl _) _⟩
  · have Hb := Lib.hid (show plAtBits x n = plNow x by unfold plAtBits; rw [if_neg c])
    have Hn := Lib.hid (show plAtN x n = n % plSpots x - 4 * fnvSize (plOld x) by unfold plAtN; rw [if_neg c])
    rw [Hb.out, Hn.out]
    go_enter Tryz.func48, Tryz.ntmps48
    go_wp2_with (first | (go_at_call 21; refine (c_As _ _ x0 x1).mono ?_; rintro e w' ⟨rfl, rfl⟩) | (go_at_call 47; refine (c_Spots _ _ x0 x1).mono ?_; rintro e w' ⟨rfl, rfl⟩) | (go_at_call 27; refine (c_Size _ _ (by omega) (by omega)).mono ?_; rintro e w' ⟨rfl, rfl⟩))
    exact bodyPost_ret (v := .agg #[.int .i64 (plNow x), .int .i64 ((n % plSpots x - 4 * fnvSize (plOld x)) / 4), .int .i64 (n % plSpots x % 4)]) (by simp [results, Tryz.results48, go_sem]) rfl ⟨rfl, (Below.refl _ _).alloc (Nat.le_refl _) _⟩

theorem c_Version (b k : Int) (w : World) (b0 : -9223372036854775808 ≤ b) (b1 : b ≤ 9223372036854775807) (k0 : -9223372036854775808 ≤ k) (k1 : k ≤ 9223372036854775807) :
    Calls Tryz.prog 56 #[.agg #[.int .i64 b, .int .i64 k]] w fun e w' => e = .returned (.int .u64 (plVersion b k)) ∧ Below w.heap.size w w' := by
  have hs := fnvSize_bd b
  by_cases c : 0 ≤ k ∧ k < fnvSize b
  · have Ht := Lib.hid (plVersion_in c)
    have d := decide_eq_true c
    have hst : 0 ≤ fnvStripe b k ∧ fnvStripe b k < 64 := by unfold fnvStripe; rw [if_pos c]; omega
    rw [Ht.out]
    obtain ⟨ca, cb⟩ := c
    go_enter Tryz.func56, Tryz.ntmps56
    go_wp2_with fail
    refine (c_there _ _ _ b0 b1 k0 k1).mono ?_
    rintro e w' ⟨rfl, hb⟩
    have q0 : w'.cell? ⟨w.heap.size, 0, none⟩ = some (.int .i64 b) := by rw [hb.cell (p := ⟨w.heap.size, 0, none⟩) (by simp)]; simp
    have q1 : w'.cell? ⟨w.heap.size, 1, none⟩ = some (.int .i64 k) := by rw [hb.cell (p := ⟨w.heap.size, 1, none⟩) (by simp)]; simp
    go_wp2_with (go_at_call 114; refine (c_Stripe _ _ _ k0 k1 b0 b1).mono ?_; rintro e w'' ⟨rfl, hb'⟩)
    go_ret
    exact ⟨rfl, (((Below.refl _ _).alloc (Nat.le_refl _) _).trans (hb.mono (by simp))).trans (hb'.mono (Nat.le_trans (by simp) hb.size))⟩
  · have d := decide_eq_false c
    rw [plVersion_out c]
    clear c
    go_enter Tryz.func56, Tryz.ntmps56
    go_wp2_with (go_at_call 108; refine (c_there _ _ _ b0 b1 k0 k1).mono ?_; rintro e w' ⟨rfl, hb⟩)
    go_ret
    exact ⟨rfl, ((Below.refl _ _).alloc (Nat.le_refl _) _).trans (hb.mono (by simp))⟩

theorem c_Item (b k s : Int) (w : World) (b0 : -9223372036854775808 ≤ b) (b1 : b ≤ 9223372036854775807) (k0 : -9223372036854775808 ≤ k) (k1 : k ≤ 9223372036854775807) (s0 : -9223372036854775808 ≤ s) (s1 : s ≤ 9223372036854775807) :
    Calls Tryz.prog 106 #[.agg #[.int .i64 b, .int .i64 k, .int .i64 s]] w fun e w' => e = .returned (.int .u64 (plItem b k s)) ∧ Below w.heap.size w w' := by
  have hs := fnvSize_bd b
  by_cases c : 0 ≤ k ∧ k < fnvSize b
  · have d := decide_eq_true c
    by_cases c2 : 0 ≤ s ∧ s ≤ 3
    · have Ht := Lib.hid (plItem_in c c2)
      have hT : 0 ≤ plTags b k ∧ plTags b k ≤ 1000000 := by rw [plTags_in c]; omega
      obtain ⟨ca, cb⟩ := c2
      have d1 : decide (s < 0) = false := by simp; omega
      have d2 : decide (4 ≤ s) = false := by simp; omega
      rw [Ht.out]
      clear c
      go_enter Tryz.func106, Tryz.ntmps106
      go_wp2_with fail
      refine (c_there _ _ _ b0 b1 k0 k1).mono ?_
      rintro e w' ⟨rfl, hb⟩
      have q0 : w'.cell? ⟨w.heap.size, 0, none⟩ = some (.int .i64 b) := by rw [hb.cell (p := ⟨w.heap.size, 0, none⟩) (by simp)]; simp
      have q1 : w'.cell? ⟨w.heap.size, 1, none⟩ = some (.int .i64 k) := by rw [hb.cell (p := ⟨w.heap.size, 1, none⟩) (by simp)]; simp
      have q2 : w'.cell? ⟨w.heap.size, 2, none⟩ = some (.int .i64 s) := by rw [hb.cell (p := ⟨w.heap.size, 2, none⟩) (by simp)]; simp
      have hB : Below w.heap.size w w' := ((Below.refl _ _).alloc (Nat.le_refl _) _).trans (hb.mono (by simp))
      have hz : w.heap.size < w'.heap.size := Nat.lt_of_lt_of_le (by simp) hb.size
      clear hb
      go_wp2_with fail
      refine wp_region_via (by kernel_rfl) (by kernel_rfl) ?_
      repeat (go_big_quiet_step ((go_at_call 37; exact viaB (c_Tags _ _ _ b0 b1 k0 k1))))
      refine wpQuiet_nil ?_
      rintro _ ⟨e, rfl⟩
      go_wp2
      go_ret
      exact ⟨rfl, hB.trans ((via_below _ e).mono hB.size)⟩
    · rw [plItem_out (by omega)]
      by_cases c3 : s < 0
      · have d1 : decide (s < 0) = true := by simp; omega
        clear c2 c
        go_enter Tryz.func106, Tryz.ntmps106
        go_wp2_with fail
        refine (c_there _ _ _ b0 b1 k0 k1).mono ?_
        rintro e w' ⟨rfl, hb⟩
        have q2 : w'.cell? ⟨w.heap.size, 2, none⟩ = some (.int .i64 s) := by rw [hb.cell (p := ⟨w.heap.size, 2, none⟩) (by simp)]; simp
        have hB : Below w.heap.size w w' := ((Below.refl _ _).alloc (Nat.le_refl _) _).trans (hb.mono (by simp))
        clear hb
        go_wp2_with fail
        go_ret
        exact ⟨rfl, hB⟩
      · have d1 : decide (s < 0) = false := by simp; omega
        have d2 : decide (4 ≤ s) = true := by simp; omega
        clear c2 c
        go_enter Tryz.func106, Tryz.ntmps106
        go_wp2_with fail
        refine (c_there _ _ _ b0 b1 k0 k1).mono ?_
        rintro e w' ⟨rfl, hb⟩
        have q2 : w'.cell? ⟨w.heap.size, 2, none⟩ = some (.int .i64 s) := by rw [hb.cell (p := ⟨w.heap.size, 2, none⟩) (by simp)]; simp
        have hB : Below w.heap.size w w' := ((Below.refl _ _).alloc (Nat.le_refl _) _).trans (hb.mono (by simp))
        clear hb
        go_wp2_with fail
        go_ret
        exact ⟨rfl, hB⟩
  · have d := decide_eq_false c
    rw [plItem_out (by omega)]
    clear c
    go_enter Tryz.func106, Tryz.ntmps106
    go_wp2_with (go_at_call 108; refine (c_there _ _ _ b0 b1 k0 k1).mono ?_; rintro e w' ⟨rfl, hb⟩)
    go_ret
    exact ⟨rfl, ((Below.refl _ _).alloc (Nat.le_refl _) _).trans (hb.mono (by simp))⟩
theorem c_rSpots (x : Int) (w : World) (x0 : 0 ≤ x) (x1 : x < 18446744073709551616) :
    Calls Tryz.prog 232 #[.int .u64 x] w fun e w' => e = .returned (.int .i64 (plSpots x)) ∧ w = w' := by
  have ho := plOld_bd x
  have hn := plNow_bd x
  have h1 := fnvSize_bd (plOld x)
  have h2 := fnvSize_bd (plNow x)
  go_enter Tryz.func232, Tryz.ntmps232
  go_wp2_with (first | (go_at_call 133; refine (c_rAs _ _ x0 x1).mono ?_; rintro e w' ⟨rfl, rfl⟩) | (go_at_call 134; refine (c_rSize _ _ (by omega) (by omega)).mono ?_; rintro e w' ⟨rfl, rfl⟩))
  go_ret
  exact ⟨ret_int (by unfold plSpots; omega), rfl⟩

theorem c_rVersion (b k : Int) (w : World) (b0 : -9223372036854775808 ≤ b) (b1 : b ≤ 9223372036854775807) (k0 : -9223372036854775808 ≤ k) (k1 : k ≤ 9223372036854775807) :
    Calls Tryz.prog 269 #[.agg #[.int .i64 b, .int .i64 k]] w fun e w' => e = .returned (.int .u64 (plVersion b k)) ∧ Below w.heap.size w w' := by
  have hs := fnvSize_bd b
  by_cases c : 0 ≤ k ∧ k < fnvSize b
  · have Ht := Lib.hid (plVersion_in c)
    have d := decide_eq_true c
    have hst : 0 ≤ fnvStripe b k ∧ fnvStripe b k < 64 := by unfold fnvStripe; rw [if_pos c]; omega
    rw [Ht.out]
    obtain ⟨ca, cb⟩ := c
    go_enter Tryz.func269, Tryz.ntmps269
    go_wp2_with fail
    refine (c_rthere _ _ _ b0 b1 k0 k1).mono ?_
    rintro e w' ⟨rfl, hb⟩
    have q0 : w'.cell? ⟨w.heap.size, 0, none⟩ = some (.int .i64 b) := by rw [hb.cell (p := ⟨w.heap.size, 0, none⟩) (by simp)]; simp
    have q1 : w'.cell? ⟨w.heap.size, 1, none⟩ = some (.int .i64 k) := by rw [hb.cell (p := ⟨w.heap.size, 1, none⟩) (by simp)]; simp
    go_wp2_with (go_at_call 290; refine (c_rStripe _ _ _ k0 k1 b0 b1).mono ?_; rintro e w'' ⟨rfl, hb'⟩)
    go_ret
    exact ⟨rfl, (((Below.refl _ _).alloc (Nat.le_refl _) _).trans (hb.mono (by simp))).trans (hb'.mono (Nat.le_trans (by simp) hb.size))⟩
  · have d := decide_eq_false c
    rw [plVersion_out c]
    clear c
    go_enter Tryz.func269, Tryz.ntmps269
    go_wp2_with (go_at_call 219; refine (c_rthere _ _ _ b0 b1 k0 k1).mono ?_; rintro e w' ⟨rfl, hb⟩)
    go_ret
    exact ⟨rfl, ((Below.refl _ _).alloc (Nat.le_refl _) _).trans (hb.mono (by simp))⟩

theorem c_rPlAt (x n : Int) (w : World) (x0 : 0 ≤ x) (x1 : x < 18446744073709551616) (n0 : -9223372036854775808 ≤ n) (n1 : n ≤ 9223372036854775807) :
    Calls Tryz.prog 166 #[.int .u64 x, .int .i64 n] w fun e w' => e = .returned (.agg #[.int .i64 (plAtBits x n), .int .i64 (plAtN x n / 4), .int .i64 (n % plSpots x % 4)]) ∧ Below w.heap.size w w' := by
  have ho := plOld_bd x
  have hn := plNow_bd x
  have h1 := fnvSize_bd (plOld x)
  have h2 := fnvSize_bd (plNow x)
  have hs := plSpots_bd x
  have t1 := Int.tmod_lt_of_pos n (show 0 < plSpots x by omega)
  have t2 := Int.lt_tmod_of_pos n (show 0 < plSpots x by omega)
  have m1 := Int.emod_nonneg n (show plSpots x ≠ 0 by omega)
  have m2 := Int.emod_lt_of_pos n (show 0 < plSpots x by omega)
  have e1 : (n.tmod (plSpots x) + plSpots x) % plSpots x = n % plSpots x := by
    rw [← Int.tmod_eq_emod_of_nonneg (by omega)]; exact round_mod (by omega)
  have ee : (0 ≤ n.tmod (plSpots x) ∧ n.tmod (plSpots x) = n % plSpots x) ∨ (n.tmod (plSpots x) < 0 ∧ n.tmod (plSpots x) + plSpots x = n % plSpots x) := by
    rcases Int.lt_or_le (n.tmod (plSpots x)) 0 with h | h
    · right; exact ⟨h, by rw [← e1, Int.emod_eq_of_lt (by omega) (by omega)]⟩
    · left; exact ⟨h, by rw [← e1, Int.add_emod_right, Int.emod_eq_of_lt h (by omega)]⟩
  clear e1
  have hv : plAtBits x n = plOld x ∧ plAtN x n = n % plSpots x ∧ n % plSpots x < 4 * fnvSize (plOld x) ∨ plAtBits x n = plNow x ∧ plAtN x n = n % plSpots x - 4 * fnvSize (plOld x) ∧ 4 * fnvSize (plOld x) ≤ n % plSpots x := by
    by_cases c : n % plSpots x < 4 * fnvSize (plOld x)
    · left; exact ⟨by unfold plAtBits; rw [if_pos c], by unfold plAtN; rw [if_pos c], c⟩
    · right; exact ⟨by unfold plAtBits; rw [if_neg c], by unfold plAtN; rw [if_neg c], by omega⟩
  rcases hv with ⟨hb, hN, c⟩ | ⟨hb, hN, c⟩
  · rw [hb, hN]
    clear hb hN
    rcases ee with ⟨d1, d2⟩ | ⟨d1, d2⟩
    all_goals
      go_enter Tryz.func166, Tryz.ntmps166
      go_wp2_with (first | (go_at_call 133; refine (c_rAs _ _ x0 x1).mono ?_; rintro e w' ⟨rfl, rfl⟩) | (go_at_call 232; refine (c_rSpots _ _ x0 x1).mono ?_; rintro e w' ⟨rfl, rfl⟩) | (go_at_call 134; refine (c_rSize _ _ (by omega) (by omega)).mono ?_; rintro e w' ⟨rfl, rfl⟩))
      exact bodyPost_ret (v := .agg #[.int .i64 (plOld x), .int .i64 (n % plSpots x / 4), .int .i64 (n % plSpots x % 4)]) (by simp [results, Tryz.results166, go_sem]) rfl ⟨rfl, (Below.refl _ _).alloc (Nat.le_refl _) _⟩
  · rw [hb, hN]
    clear hb hN
    rcases ee with ⟨d1, d2⟩ | ⟨d1, d2⟩
    all_goals
      go_enter Tryz.func166, Tryz.ntmps166
      go_wp2_with (first | (go_at_call 133; refine (c_rAs _ _ x0 x1).mono ?_; rintro e w' ⟨rfl, rfl⟩) | (go_at_call 232; refine (c_rSpots _ _ x0 x1).mono ?_; rintro e w' ⟨rfl, rfl⟩) | (go_at_call 134; refine (c_rSize _ _ (by omega) (by omega)).mono ?_; rintro e w' ⟨rfl, rfl⟩))
      exact bodyPost_ret (v := .agg #[.int .i64 (plNow x), .int .i64 ((n % plSpots x - 4 * fnvSize (plOld x)) / 4), .int .i64 (n % plSpots x % 4)]) (by simp [results, Tryz.results166, go_sem]) rfl ⟨rfl, (Below.refl _ _).alloc (Nat.le_refl _) _⟩
end
section
open Go.RowKit
set_option linter.unusedVariables false

def u64s (l : List Int) : List Value := l.map (Value.int .u64)
/-- A Mark in block X that has l to add to. -/
structure MkAt (W : World) (G : Om) (k X : Nat) (l : List Int) : Prop where
  ex : ∃ (A off : Nat) (full : List Int), Ob W G k X [.slice (some ⟨A, off, none⟩) l.length l.length] ∧ Ob W G (k + 1) A (u64s full) ∧ (l = [] ∨ full.drop off = l)
theorem MkAt.ext {S : Nat → Prop} {O O' : Om} {w w' : World} {k X : Nat} {l : List Int} (h : MkAt w O k X l) (e : Ext S O w O' w') (h1 : ¬ S k) (h2 : ¬ S (k + 1)) : MkAt w' O' k X l := by
  obtain ⟨A, off, full, a, b, c⟩ := h.ex
  exact ⟨A, off, full, a.ext e h1, b.ext e h2, c⟩
theorem MkAt.below {O : Om} {w w' : World} {k X : Nat} {l : List Int} (h : MkAt w O k X l) (hb : Below w.heap.size w w') : MkAt w' O k X l := by
  obtain ⟨A, off, full, a, b, c⟩ := h.ex
  exact ⟨A, off, full, a.below hb, b.below hb, c⟩
theorem MkAt.cell {O : Om} {w : World} {k X : Nat} {l : List Int} (h : MkAt w O k X l) : ∃ A off, w.cell? ⟨X, 0, none⟩ = some (.slice (some ⟨A, off, none⟩) l.length l.length) := by
  obtain ⟨A, off, full, a, b, c⟩ := h.ex
  exact ⟨A, off, a.c 0 _ rfl⟩
theorem c_MkOver {X : Nat} {ao : Option Addr} {n c : Nat} {w : World} (h : w.cell? ⟨X, 0, none⟩ = some (.slice ao n c)) : Calls Tryz.prog 239 #[.pointer (some ⟨X, 0, none⟩)] w fun e w' => e = .returned (.bool (n == 0)) ∧ w = w' := by
  go_enter Tryz.func239, Tryz.ntmps239
  go_wp2
  go_ret
  exact ⟨ret_bool (by rw [Bool.eq_iff_iff]; simp), rfl⟩
theorem c_LoadP (a : Int) {w : World} {O : Om} {B : Wb} {f : Cf} {s : AW} (hP : PW w O B f s) (hhi : ∀ j, O j ≠ 0 → j < w.heap.size) (a0 : 0 ≤ a) (a1 : a < 18446744073709551616) (n0 : 0 ≤ s.n) (n1 : s.n ≤ 4611686018427387904) :
    Calls Tryz.prog 115 #[.pointer (some ⟨B.c, 0, none⟩), .int .u64 a] w (RP SW w O (.int .u64 (s.M a)) fun W G => PW W G B f (awLoad a s)) := by
  refine (c_Load a hP.ce a0 a1 n0 n1).mono fun e w' hp => ?_
  exact hP.rp_cells hhi hp
theorem c_AddP (a v : Int) {w : World} {O : Om} {B : Wb} {f : Cf} {s : AW} (hP : PW w O B f s) (hhi : ∀ j, O j ≠ 0 → j < w.heap.size) (a0 : 0 ≤ a) (a1 : a < 18446744073709551616) (v0 : 0 ≤ v) (v1 : v < 18446744073709551616) (n0 : 0 ≤ s.n) (n1 : s.n ≤ 4611686018427387904) :
    Calls Tryz.prog 195 #[.pointer (some ⟨B.c, 0, none⟩), .int .u64 a, .int .u64 v] w (RP SW w O (.int .u64 (s.M a)) fun W G => PW W G B f (awAdd a v s)) := by
  refine (c_Add a v hP.ce a0 a1 v0 v1 n0 n1).mono fun e w' hp => ?_
  exact hP.rp_cells hhi hp
set_option maxHeartbeats 2000000 in
set_option maxRecDepth 100000 in
theorem c_MkStep {X : Nat} (a : Int) (l : List Int) {w : World} {O : Om} {B : Wb} {f : Cf} {s : AW} (k : Nat) (hP : PW w O B f s) (hX : MkAt w O k X (a :: l)) (hl : l.length ≤ 5) (hk : 10 ≤ k) (hhi : ∀ j, O j ≠ 0 → j < w.heap.size) (a0 : 0 ≤ a) (a1 : a < 18446744073709551616) (n0 : 0 ≤ s.n) (n1 : s.n ≤ 4611686018427387904) :
    Calls Tryz.prog 191 #[.pointer (some ⟨X, 0, none⟩), .pointer (some ⟨B.p, 0, none⟩)] w (RP (SX k k) w O (.bool (l.length == 0)) fun W G => PW W G B f (awAdd a 1 s) ∧ MkAt W G k X l) := by
  obtain ⟨A, off, full, hx, ha, hd⟩ := hX.ex
  have hd : full.drop off = a :: l := by rcases hd with hd | hd; exact absurd hd (by simp); exact hd
  have HM : Hid (Me k k w O w O B f s k X [.slice (some ⟨A, off, none⟩) (l.length + 1) (l.length + 1)]) := Lib.hid (Me.start hhi hP hx)
  have xx := hx.c 0 _ rfl
  have p0 := hP.wo.c0
  have hfo : full[off]? = some a := by
    have := congrArg (fun z : List Int => z[0]?) hd
    simpa using this
  have hfu : (u64s full)[off]? = some (.int .u64 a) := by unfold u64s; rw [List.getElem?_map, hfo]; rfl
  have q0 : w.cell? ⟨A, off, none⟩ = some (.int .u64 a) := ha.c off _ hfu
  have HFU := Lib.hid hfu
  have hd2 : full.drop (off + 1) = l := by
    have := congrArg List.tail hd
    simpa using this
  have HD := Lib.hid (And.intro ha hd2)
  have HA := Lib.hid (fun (W : World) (hW : Below w.heap.size w W) => c_AddP a 1 (w := W) (hP.below hhi hW) (fun j hj => Nat.lt_of_lt_of_le (hhi j hj) hW.size) a0 a1 (by decide) (by decide) n0 n1)
  obtain ⟨n, hn⟩ : ∃ n, n = l.length := ⟨_, rfl⟩
  rw [← hn] at hl HM ⊢
  have x0 : w.cell? ⟨X, 0, none⟩ = some (.slice (some ⟨A, off, none⟩) (n + 1) (n + 1)) := by rw [hn]; exact xx
  have HN := Lib.hid hn
  have e0 : (n + 1 == 0) = false := by simp
  clear hP hX hx ha hd hfo hd2 hhi hn xx hfu
  cases n with
  | zero =>
    go_enter Tryz.func191, Tryz.ntmps191
    go_wp2_with fail
    refine (c_MkOver x0).mono ?_
    rintro e w' ⟨rfl, rfl⟩
    rw [e0]
    go_wp2_with fail
    go_region_held3 (fun w' => w'.cell? ⟨B.p, 0, none⟩ = some (.pointer (some ⟨B.c, 0, none⟩)) ∧ w'.cell? ⟨X, 0, none⟩ = some (.slice (some ⟨A, off, none⟩) 1 1) ∧ w'.cell? ⟨A, off, none⟩ = some (.int .u64 a)) (go_keep)
      ((go_at_call 195
        refine (HA.out _ (drew_below _)).mono ?_
        rintro e w1 ⟨rfl, G1, e1, P1⟩
        have M1 := Lib.hid (HM.out.drew.world hk e1 P1)
        have hA1 := Lib.hid ((HD.out.1.below (drew_below w)).ext e1 (by unfold SW; omega))
        have p01 := M1.out.p.wo.c0
        have a01 := hA1.out.c off _ HFU.out
        have z0 := M1.out.t.c 0 _ rfl
        have zf := M1.out.t.f 0
        have M2 := Lib.hid (M1.out.set hk (Nat.le_refl _) (Nat.le_refl _) 0 (.slice (some ⟨A, off, none⟩) 0 0) (by simp))
        have HE := Lib.hid (ext_set (j := 0) (v := .slice (some ⟨A, off, none⟩) 0 0) M1.out.e.hi M1.out.t hk)
        clear e1 P1))
    all_goals
      clear x0 q0 p0 p01 a01
      go_wp2_with fail
      go_region
      all_goals
        have M3 := Lib.hid M2.out.drew
        have r0 := M3.out.t.c 0 _ rfl
        go_wp2_with fail
        refine (c_MkOver r0).mono ?_
        rintro e w' ⟨rfl, rfl⟩
        go_wp2_with fail
        go_ret
        exact ⟨rfl, _, M3.out.e, M3.out.p, ⟨A, off, full, by rw [← HN.out]; exact M3.out.t, (hA1.out.ext HE.out (by omega)).below (drew_below _), .inl (List.eq_nil_of_length_eq_zero HN.out.symm)⟩⟩
  | succ m =>
    have hi0 : (0 : Int) < (m : Int) + 1 + 1 := by omega
    have hi1 : (0 : Int) < ((m + 1 + 1 : Nat) : Int) := by omega
    have hi2 : (1 : Int) ≤ (m : Int) + 1 + 1 := by omega
    have hi3 : 0 < m + 1 + 1 := by omega
    go_enter Tryz.func191, Tryz.ntmps191
    go_wp2_with fail
    refine (c_MkOver x0).mono ?_
    rintro e w' ⟨rfl, rfl⟩
    rw [e0]
    go_wp2_with fail
    go_region_held3 (fun w' => w'.cell? ⟨B.p, 0, none⟩ = some (.pointer (some ⟨B.c, 0, none⟩)) ∧ w'.cell? ⟨X, 0, none⟩ = some (.slice (some ⟨A, off, none⟩) (m + 1 + 1) (m + 1 + 1)) ∧ w'.cell? ⟨A, off, none⟩ = some (.int .u64 a)) (go_keep)
      ((go_at_call 195
        refine (HA.out _ (drew_below _)).mono ?_
        rintro e w1 ⟨rfl, G1, e1, P1⟩
        have M1 := Lib.hid (HM.out.drew.world hk e1 P1)
        have hA1 := Lib.hid ((HD.out.1.below (drew_below w)).ext e1 (by unfold SW; omega))
        have p01 := M1.out.p.wo.c0
        have a01 := hA1.out.c off _ HFU.out
        have z0 := M1.out.t.c 0 _ rfl
        have zf := M1.out.t.f 0
        have M2 := Lib.hid (M1.out.set hk (Nat.le_refl _) (Nat.le_refl _) 0 (.slice (some ⟨A, off + 1, none⟩) (m + 1) (m + 1)) (by simp))
        have HE := Lib.hid (ext_set (j := 0) (v := .slice (some ⟨A, off + 1, none⟩) (m + 1) (m + 1)) M1.out.e.hi M1.out.t hk)
        clear e1 P1))
    all_goals
      clear x0 q0 p0 p01 a01
      go_wp2_with fail
      go_region
      all_goals
        have M3 := Lib.hid M2.out.drew
        have r0 := M3.out.t.c 0 _ rfl
        go_wp2_with fail
        refine (c_MkOver r0).mono ?_
        rintro e w' ⟨rfl, rfl⟩
        go_wp2_with fail
        go_ret
        exact ⟨rfl, _, M3.out.e, M3.out.p, ⟨A, off + 1, full, by rw [← HN.out]; exact M3.out.t, (hA1.out.ext HE.out (by omega)).below (drew_below _), .inr HD.out.2⟩⟩
theorem c_ContainsA0 (a : Int) (w : World) : Calls Tryz.prog 245 #[.slice none 0 0, .int .u64 a] w fun e w' => e = .returned (.bool false) ∧ w = w' := by
  have hI : Calls Tryz.prog 276 #[.slice none 0 0, .int .u64 a] w fun e w' => e = .returned (.int .i64 (-1)) ∧ w = w' := by
    go_enter Tryz.func276, Tryz.ntmps276
    go_wp2
    refine wp_loop_rounds 1 ?_
    rw [rounds_succ]
    go_wp2
    go_ret
    exact ⟨rfl, rfl⟩
  go_enter Tryz.func245, Tryz.ntmps245
  go_wp2_with (go_at_call 276; refine hI.mono ?_; rintro e w' ⟨rfl, rfl⟩)
  go_ret
  exact ⟨rfl, rfl⟩
theorem c_ContainsA1 (a b : Int) (A : Nat) (cp : Nat) (w : World) (h : w.cell? ⟨A, 0, none⟩ = some (.int .u64 b)) (hc : 1 ≤ cp ∧ cp ≤ maxLen) : Calls Tryz.prog 245 #[.slice (some ⟨A, 0, none⟩) 1 cp, .int .u64 a] w fun e w' => e = .returned (.bool (a == b)) ∧ w = w' := by
  have hI : Calls Tryz.prog 276 #[.slice (some ⟨A, 0, none⟩) 1 cp, .int .u64 a] w fun e w' => e = .returned (.int .i64 (if a = b then 0 else -1)) ∧ w = w' := by
    by_cases hab : a = b
    · subst hab
      have d : (a == a) = true := by simp
      rw [if_pos rfl]
      go_enter Tryz.func276, Tryz.ntmps276
      go_wp2
      refine wp_loop_rounds 1 ?_
      rw [rounds_succ]
      go_wp2
      go_ret
      exact ⟨rfl, rfl⟩
    · have d : (a == b) = false := by simp [hab]
      have d2 : (b == a) = false := by simp; omega
      rw [if_neg hab]
      clear hab
      go_enter Tryz.func276, Tryz.ntmps276
      go_wp2
      refine wp_loop_rounds 2 ?_
      rw [rounds_succ]
      go_wp2
      rw [rounds_succ]
      go_wp2
      go_ret
      exact ⟨rfl, rfl⟩
  by_cases hab : a = b
  · rw [if_pos hab] at hI
    have d : (a == b) = true := by simp [hab]
    rw [d]
    clear hab
    go_enter Tryz.func245, Tryz.ntmps245
    go_wp2_with (go_at_call 276; refine hI.mono ?_; rintro e w' ⟨rfl, rfl⟩)
    go_ret
    exact ⟨rfl, rfl⟩
  · rw [if_neg hab] at hI
    have d : (a == b) = false := by simp [hab]
    rw [d]
    clear hab
    go_enter Tryz.func245, Tryz.ntmps245
    go_wp2_with (go_at_call 276; refine hI.mono ?_; rintro e w' ⟨rfl, rfl⟩)
    go_ret
    exact ⟨rfl, rfl⟩
theorem c_ClipA (a : Addr) (n c : Nat) (w : World) (hn : n ≤ c) (hc : c ≤ maxLen) :
    Calls Tryz.prog 246 #[.slice (some a) n c] w fun e w' => e = .returned (.slice (some a) n n) ∧ w = w' := by
  unfold maxLen at hc
  go_enter Tryz.func246, Tryz.ntmps246
  go_wp2
  go_ret
  exact ⟨rfl, rfl⟩
theorem infoAd : (Tryz.prog.info? 42).map (fun i => (i.zero, i.size, i.bytes)) = some (some (.int .u64 0), 1, 8) := by kernel_rfl
/-- A row of an owner that is there, as an object. -/
theorem Row.ob {w : World} {O : Om} {t : Nat} {E : TypeId} {g n cap : Nat} {xs : List Value} (h : Row w O t E 1 (.slice (some ⟨g, 0, none⟩) n cap) n xs) (hn : 0 < n) : Ob w O t g xs := by
  obtain ⟨b, o, c, he, -, -, hlt, hx⟩ := (Arr.of_own h.own).open hn (by decide)
  cases he
  exact ⟨h.vo g rfl, hlt, fun j u hu => by have := hx j u hu; rwa [Nat.zero_add] at this, h.own.frozenAt⟩
set_option maxHeartbeats 2000000 in
set_option maxRecDepth 100000 in
theorem c_Of1 (p : Spt) (hp : p.ok) {b o c : Nat} {w : World} {O : Om} (g : Nat) (hg : g ≠ 0) (hc : 1 ≤ c ∧ c ≤ maxLen) (hb : b < w.heap.size) (x0 : w.cell? ⟨b, o, none⟩ = some (.int .i64 p.b)) (x1 : w.cell? ⟨b, o + 1, none⟩ = some (.int .i64 p.q)) (hhi : ∀ j, O j ≠ 0 → j < w.heap.size) :
    Calls Tryz.prog 197 #[.slice (some ⟨b, o, none⟩) 1 c] w fun e w' => ∃ A, e = .returned (.slice (some ⟨A, 0, none⟩) 1 1) ∧ ∃ G, Ext (fun j => j = g) O w G w' ∧ Ob w' G g A [.int .u64 p.ver] := by
  obtain ⟨i0, hi, hz0, hz1, hz2⟩ := info_parts infoAd
  have HI := Lib.hid (And.intro hi (And.intro hz0 (And.intro hz1 hz2)))
  have hq := hp.q2
  have hv := hp.ver
  have HV := Lib.hid (fun W => c_Version p.b p.q W (by have := hp.b0; omega) (by have := hp.b1; omega) (by have := hp.q0; omega) (by omega))
  obtain ⟨ve, hve⟩ : ∃ ve, ve = p.ver := ⟨_, rfl⟩
  have hve2 : plVersion p.b p.q = ve := hve.symm
  rw [hve2] at HV
  rw [← hve] at hv ⊢
  obtain ⟨pb, hpb⟩ : ∃ z, z = p.b := ⟨_, rfl⟩
  obtain ⟨pq, hpq⟩ : ∃ z, z = p.q := ⟨_, rfl⟩
  rw [← hpb, ← hpq] at HV
  rw [← hpb] at x0
  rw [← hpq] at x1
  have dv : (ve != 0) = true := by simp; omega
  have HH := Lib.hid hhi
  clear hp hq hv hve hve2 hpb hpq hhi hi hz0 hz1 hz2
  go_enter Tryz.func197, Tryz.ntmps197
  go_wp2_with fail
  refine wp_loop_rounds 2 ?_
  rw [rounds_succ]
  go_wp2_with fail
  refine (HV.out _).mono ?_
  rintro e w1 ⟨rfl, hb1⟩
  have HB1 : Hid (Below w.heap.size w w1) := Lib.hid (by first | exact ((Below.refl _ _).alloc (Nat.le_refl _) _).trans (hb1.mono (by simp)) | exact hb1)
  have E1 := Lib.hid (Ext.of_below (S := fun j => j = g) HH.out HB1.out)
  clear hb1
  go_wp2_with fail
  refine (c_ContainsA0 _ _).mono ?_
  rintro e w' ⟨rfl, rfl⟩
  go_wp2_with (at_builtin; refine append_row w1 rfl _ _ 261 rfl 42 i0 (.int .u64 0) 1 8 Tryz.underlying261 HI.out.1 HI.out.2.1 HI.out.2.2.1 HI.out.2.2.2 rfl (by decide) (by decide) O g hg E1.out.hi (.slice none 0 0) 0 [] rfl (Row.nil _ _ _ _ _) [.int .u64 ve] _ rfl rfl (by simp [Value.oneCell']) (by omega) ?_; intro gg cap w2 G2 e2 r2; have HR2 := Lib.hid r2; have E2 := Lib.hid (E1.out.trans e2); clear e2 r2)
  rw [rounds_succ]
  go_wp2_with fail
  refine (c_ClipA _ _ _ _ (by obtain ⟨_, _, _, he, h1, h2, -⟩ := (Arr.of_own HR2.out.own).open (by decide) (by decide); cases he; exact h1) (by obtain ⟨_, _, _, he, h1, h2, -⟩ := (Arr.of_own HR2.out.own).open (by decide) (by decide); cases he; exact h2)).mono ?_
  rintro e w' ⟨rfl, rfl⟩
  go_wp2_with fail
  go_ret
  exact ⟨gg, rfl, G2, E2.out, HR2.out.ob (by decide)⟩
set_option maxHeartbeats 2000000 in
set_option maxRecDepth 100000 in
theorem c_NewMark1 (p : Spt) (hp : p.ok) {b o c : Nat} {w : World} {O : Om} (k : Nat) (hk : 10 ≤ k) (hc : 1 ≤ c ∧ c ≤ maxLen) (hb : b < w.heap.size) (x0 : w.cell? ⟨b, o, none⟩ = some (.int .i64 p.b)) (x1 : w.cell? ⟨b, o + 1, none⟩ = some (.int .i64 p.q)) (hhi : ∀ j, O j ≠ 0 → j < w.heap.size) :
    Calls Tryz.prog 117 #[.slice (some ⟨b, o, none⟩) 1 c] w fun e w' => ∃ X, RP (fun t => t = k ∨ t = k + 1) w O (.pointer (some ⟨X, 0, none⟩)) (fun W G => MkAt W G k X [p.ver]) e w' := by
  have HO := Lib.hid (c_Of1 p hp (k + 1) (by omega) hc hb x0 x1 hhi)
  clear hp hb x0 x1 hhi
  go_enter Tryz.func117, Tryz.ntmps117
  go_wp2_with fail
  refine HO.out.mono ?_
  rintro e w1 ⟨A, rfl, G1, e1, a1⟩
  obtain ⟨G2, e2, x2, k2⟩ := alloc_ob e1.hi k #[.slice (some ⟨A, 0, none⟩) 1 1] 319 w1.heap.size rfl
  have HE := Lib.hid (And.intro ((e1.mono (T := fun t => t = k ∨ t = k + 1) fun t _ h => .inr h).trans (e2.mono fun t _ h => .inl h)) (And.intro x2 (k2 _ _ _ a1)))
  clear e1 a1 e2 x2 k2
  go_wp2_with fail
  go_ret
  exact ⟨_, rfl, G2, HE.out.1, ⟨A, 0, [p.ver], HE.out.2.1, HE.out.2.2, .inr rfl⟩⟩
end
section
open Go.RowKit
set_option linter.unusedVariables false

theorem and255 (x : Int) (x0 : 0 ≤ x) (x1 : x < 18446744073709551616) : bits BinOp.and IntKind.u64 x 255 = x % 256 := by
  obtain ⟨a, rfl⟩ := Int.eq_ofNat_of_zero_le x0
  have h := u64_and_nat a 255 (by omega) (by decide)
  rw [show ((255 : Nat) : Int) = 255 by rfl] at h
  rw [h, show (255 : Nat) = 2 ^ 8 - 1 by rfl, Nat.and_two_pow_sub_one_eq_mod]
  omega
theorem c_rTwTag (x s : Int) (w : World) (x0 : 0 ≤ x) (x1 : x < 18446744073709551616) (s0 : -9223372036854775808 ≤ s) (s1 : s ≤ 9223372036854775807) :
    Calls Tryz.prog 136 #[.int .u64 x, .int .i64 s] w fun e w' => e = .returned (.int .i64 (twTag x s)) ∧ w = w' := by
  by_cases h : 0 ≤ s ∧ s ≤ 3
  · have hs : s = 0 ∨ s = 1 ∨ s = 2 ∨ s = 3 := by omega
    have h2 : x / 256 / 256 = x / 65536 := by omega
    have h3 : x / 65536 / 256 = x / 16777216 := by omega
    have g0 : 0 ≤ x / 256 ∧ x / 256 < 18446744073709551616 := by omega
    have g1 : 0 ≤ x / 65536 ∧ x / 65536 < 18446744073709551616 := by omega
    have g2 : 0 ≤ x / 16777216 ∧ x / 16777216 < 18446744073709551616 := by omega
    clear h
    rcases hs with rfl | rfl | rfl | rfl
    · rw [twTag0]
      go_enter Tryz.func136, Tryz.ntmps136
      go_wp2
      refine wp_loop_rounds 1 ?_
      rw [rounds_succ]
      go_wp2
      go_ret
      exact ⟨rfl, rfl⟩
    · rw [twTag1]
      go_enter Tryz.func136, Tryz.ntmps136
      go_wp2
      refine wp_loop_rounds 2 ?_
      rw [rounds_succ]
      go_wp2
      rw [rounds_succ]
      go_wp2
      go_ret
      exact ⟨rfl, rfl⟩
    · rw [twTag2]
      go_enter Tryz.func136, Tryz.ntmps136
      go_wp2
      refine wp_loop_rounds 3 ?_
      rw [rounds_succ]
      go_wp2
      rw [rounds_succ]
      go_wp2
      rw [rounds_succ]
      go_wp2
      go_ret
      exact ⟨ret_int (by rw [← h2]), rfl⟩
    · rw [twTag3]
      go_enter Tryz.func136, Tryz.ntmps136
      go_wp2
      refine wp_loop_rounds 4 ?_
      rw [rounds_succ]
      go_wp2
      rw [rounds_succ]
      go_wp2
      rw [rounds_succ]
      go_wp2
      rw [rounds_succ]
      go_wp2
      go_ret
      exact ⟨ret_int (by rw [← h3, ← h2]), rfl⟩
  · have ht : twTag x s = 0 := by unfold twTag; rw [if_neg h]
    rw [ht]
    by_cases h0 : s < 0
    · have d : decide (s < 0) = true := by simp [h0]
      clear h
      go_enter Tryz.func136, Tryz.ntmps136
      go_wp2
      go_ret
      exact ⟨rfl, rfl⟩
    · have d : decide (s < 0) = false := by simp; omega
      have d2 : decide (3 < s) = true := by simp; omega
      clear h h0
      go_enter Tryz.func136, Tryz.ntmps136
      go_wp2
      go_ret
      exact ⟨rfl, rfl⟩
theorem twMul_bd (x s : Int) (h : 0 ≤ s ∧ s ≤ 3) (x0 : 0 ≤ x) : twTag x s * twUnit s ≤ x ∧ 0 ≤ twTag x s * twUnit s := by
  have hs : s = 0 ∨ s = 1 ∨ s = 2 ∨ s = 3 := by omega
  rcases hs with rfl | rfl | rfl | rfl
  · rw [twTag0, twU0]; omega
  · rw [twTag1, twU1]; omega
  · rw [twTag2, twU2]; omega
  · rw [twTag3, twU3]; omega
theorem twUnit_bd (s : Int) : 0 ≤ twUnit s ∧ twUnit s ≤ 16777216 := by
  unfold twUnit
  repeat' split
  all_goals omega
/-- What both sides compute, wrapped or not. -/
theorem twWith_wrap (x t : Int) (s u : Int) (hs : 0 ≤ s ∧ s ≤ 3) (hu : u = twUnit s) (x0 : 0 ≤ x) (x1 : x < 18446744073709551616) (t0 : 0 ≤ t) (t1 : t ≤ 255) :
    ((x - twTag x s * u % 18446744073709551616) % 18446744073709551616 + t * u % 18446744073709551616) % 18446744073709551616 = twWith x s t := by
  have h1 := twMul_bd x s hs x0
  have h2 := twWith_bd (s := s) (t := t) x0 x1
  have hw : twWith x s t = x - twTag x s * twUnit s + t * twUnit s := by unfold twWith; rw [if_pos ⟨hs.1, hs.2, t0, t1⟩]
  rw [hw] at h2 ⊢
  subst hu
  have hu2 := twUnit_bd s
  have h3 : 0 ≤ t * twUnit s ∧ t * twUnit s ≤ 255 * 16777216 := ⟨Int.mul_nonneg t0 hu2.1, Int.le_trans (Int.mul_le_mul_of_nonneg_left hu2.2 t0) (by omega)⟩
  obtain ⟨a, ha⟩ : ∃ a, a = twTag x s * twUnit s := ⟨_, rfl⟩
  obtain ⟨b, hb⟩ : ∃ b, b = t * twUnit s := ⟨_, rfl⟩
  rw [← ha] at h1 h2 ⊢
  rw [← hb] at h2 h3 ⊢
  omega
theorem c_rTwWith (x s t : Int) (w : World) (x0 : 0 ≤ x) (x1 : x < 18446744073709551616) (s0 : 0 ≤ s) (s1 : s ≤ 3) (t0 : 0 ≤ t) (t1 : t ≤ 255) :
    Calls Tryz.prog 214 #[.int .u64 x, .int .i64 s, .int .i64 t] w fun e w' => e = .returned (.int .u64 (twWith x s t)) ∧ w = w' := by
  have hs : s = 0 ∨ s = 1 ∨ s = 2 ∨ s = 3 := by omega
  have hb := twTag_bd x s
  have HW := Lib.hid (twWith_wrap x t s (twUnit s) ⟨s0, s1⟩ rfl x0 x1 t0 t1)
  have HT := Lib.hid (fun W => c_rTwTag x s W x0 x1 (by omega) (by omega))
  obtain ⟨g, hg⟩ : ∃ g, g = twTag x s := ⟨_, rfl⟩
  rw [← hg] at HT HW hb
  have HG := Lib.hid hg
  clear hg
  have d0 : decide (t < 0) = false := by simp; omega
  have d1 : decide (255 < t) = false := by simp; omega
  rcases hs with rfl | rfl | rfl | rfl
  · go_enter Tryz.func214, Tryz.ntmps214
    go_wp2
    refine wp_loop_rounds 1 ?_
    rw [rounds_succ]
    go_wp2_with (go_at_call 136; refine (HT.out _).mono ?_; rintro e w' ⟨rfl, rfl⟩)
    go_ret
    exact ⟨ret_int (by rw [← HW.out]; simp [IntKind.wrap_u64, twUnit]), rfl⟩
  · go_enter Tryz.func214, Tryz.ntmps214
    go_wp2
    refine wp_loop_rounds 2 ?_
    rw [rounds_succ]
    go_wp2
    rw [rounds_succ]
    go_wp2_with (go_at_call 136; refine (HT.out _).mono ?_; rintro e w' ⟨rfl, rfl⟩)
    go_ret
    exact ⟨ret_int (by rw [← HW.out]; simp [IntKind.wrap_u64, twUnit]), rfl⟩
  · go_enter Tryz.func214, Tryz.ntmps214
    go_wp2
    refine wp_loop_rounds 3 ?_
    rw [rounds_succ]
    go_wp2
    rw [rounds_succ]
    go_wp2
    rw [rounds_succ]
    go_wp2_with (go_at_call 136; refine (HT.out _).mono ?_; rintro e w' ⟨rfl, rfl⟩)
    go_ret
    exact ⟨ret_int (by rw [← HW.out]; simp [IntKind.wrap_u64, twUnit]), rfl⟩
  · go_enter Tryz.func214, Tryz.ntmps214
    go_wp2
    refine wp_loop_rounds 4 ?_
    rw [rounds_succ]
    go_wp2
    rw [rounds_succ]
    go_wp2
    rw [rounds_succ]
    go_wp2
    rw [rounds_succ]
    go_wp2_with (go_at_call 136; refine (HT.out _).mono ?_; rintro e w' ⟨rfl, rfl⟩)
    go_ret
    exact ⟨ret_int (by rw [← HW.out]; simp [IntKind.wrap_u64, twUnit]), rfl⟩
set_option maxRecDepth 100000 in
theorem c_TwParts (x : Int) (w : World) (x0 : 0 ≤ x) (x1 : x < 18446744073709551616) : Calls Tryz.prog 188 #[.int .u64 x] w fun e w' => e = .returned (.agg #[.int .i64 (twTag x 0), .int .i64 (twTag x 1), .int .i64 (twTag x 2), .int .i64 (twTag x 3)]) ∧ Below w.heap.size w w' := by
  rw [twTag0, twTag1, twTag2, twTag3]
  have a0 := and255 x x0 x1
  have a1 := and255 (x / 256) (by omega) (by omega)
  have a2 := and255 (x / 65536) (by omega) (by omega)
  have a3 := and255 (x / 16777216) (by omega) (by omega)
  have b0 : wrap64 (x % 256) = x % 256 := by unfold wrap64; omega
  have b1 : wrap64 (x / 256 % 256) = x / 256 % 256 := by unfold wrap64; omega
  have b2 : wrap64 (x / 65536 % 256) = x / 65536 % 256 := by unfold wrap64; omega
  have b3 : wrap64 (x / 16777216 % 256) = x / 16777216 % 256 := by unfold wrap64; omega
  go_enter Tryz.func188, Tryz.ntmps188
  go_wp2_with fail
  refine wp_loop_rounds 5 ?_
  rw [rounds_succ]
  go_wp2_with fail
  rw [rounds_succ]
  go_wp2_with fail
  rw [rounds_succ]
  go_wp2_with fail
  rw [rounds_succ]
  go_wp2_with fail
  rw [rounds_succ]
  go_wp2_with fail
  exact bodyPost_ret (v := .agg #[.int .i64 (x % 256), .int .i64 (x / 256 % 256), .int .i64 (x / 65536 % 256), .int .i64 (x / 16777216 % 256)]) (by simp [results, Tryz.results188, go_sem, a0, a1, a2, a3, b0, b1, b2, b3]) rfl ⟨rfl, (Below.refl _ _).alloc (Nat.le_refl _) _⟩
theorem c_twthere (k : Int) (w : World) (b : Bool) (hb : b = decide (0 ≤ k ∧ k < 4)) : Calls Tryz.prog 187 #[.int .i64 k] w fun e w' => e = .returned (.bool b) ∧ w = w' := by
  subst hb
  go_enter Tryz.func187, Tryz.ntmps187
  go_wp2
  all_goals
    go_ret
    exact ⟨ret_bool (by rw [Bool.eq_iff_iff]; simp; try omega), rfl⟩
set_option maxRecDepth 100000 in
theorem c_TwTag (x k : Int) (w : World) (x0 : 0 ≤ x) (x1 : x < 18446744073709551616) (k0 : 0 ≤ k) (k1 : k ≤ 3) : Calls Tryz.prog 105 #[.int .u64 x, .int .i64 k] w fun e w' => e = .returned (.int .i64 (twTag x k)) ∧ Below w.heap.size w w' := by
  have hk : k = 0 ∨ k = 1 ∨ k = 2 ∨ k = 3 := by omega
  have HP := Lib.hid (fun W => c_TwParts x W x0 x1)
  obtain ⟨t0, e0⟩ : ∃ t, t = twTag x 0 := ⟨_, rfl⟩
  obtain ⟨t1, e1⟩ : ∃ t, t = twTag x 1 := ⟨_, rfl⟩
  obtain ⟨t2, e2⟩ : ∃ t, t = twTag x 2 := ⟨_, rfl⟩
  obtain ⟨t3, e3⟩ : ∃ t, t = twTag x 3 := ⟨_, rfl⟩
  rw [← e0, ← e1, ← e2, ← e3] at HP
  have h0 : ∀ W, (Instr.index 311 (.agg #[.int .i64 t0, .int .i64 t1, .int .i64 t2, .int .i64 t3]) (.int .i64 0)).run Tryz.prog W = .ok (.int .i64 t0) W := fun W => by kernel_rfl
  have h1 : ∀ W, (Instr.index 311 (.agg #[.int .i64 t0, .int .i64 t1, .int .i64 t2, .int .i64 t3]) (.int .i64 1)).run Tryz.prog W = .ok (.int .i64 t1) W := fun W => by kernel_rfl
  have h2 : ∀ W, (Instr.index 311 (.agg #[.int .i64 t0, .int .i64 t1, .int .i64 t2, .int .i64 t3]) (.int .i64 2)).run Tryz.prog W = .ok (.int .i64 t2) W := fun W => by kernel_rfl
  have h3 : ∀ W, (Instr.index 311 (.agg #[.int .i64 t0, .int .i64 t1, .int .i64 t2, .int .i64 t3]) (.int .i64 3)).run Tryz.prog W = .ok (.int .i64 t3) W := fun W => by kernel_rfl
  have HE := Lib.hid (And.intro e0 (And.intro e1 (And.intro e2 e3)))
  clear e0 e1 e2 e3
  rcases hk with rfl | rfl | rfl | rfl
  all_goals
    go_enter Tryz.func105, Tryz.ntmps105
    go_wp2_with fail
    refine (c_twthere _ _ true (by decide)).mono ?_
    rintro e w' ⟨rfl, rfl⟩
    go_wp2_with fail
    refine (HP.out _).mono ?_
    rintro e w' ⟨rfl, hb⟩
    go_wp2_with fail
    go_ret
    exact ⟨ret_int (by first | exact HE.out.1 | exact HE.out.2.1 | exact HE.out.2.2.1 | exact HE.out.2.2.2), hb⟩
set_option maxRecDepth 100000 in
theorem c_TwWith (x s t : Int) (w : World) (x0 : 0 ≤ x) (x1 : x < 18446744073709551616) (s0 : 0 ≤ s) (s1 : s ≤ 3) (t0 : 0 ≤ t) (t1 : t ≤ 255) :
    Calls Tryz.prog 314 #[.int .u64 x, .int .i64 s, .int .i64 t] w fun e w' => e = .returned (.int .u64 (twWith x s t)) ∧ Below w.heap.size w w' := by
  have hs : s = 0 ∨ s = 1 ∨ s = 2 ∨ s = 3 := by omega
  have d0 : decide (t < 0) = false := by simp; omega
  have d1 : decide (255 < t) = false := by simp; omega
  have hw : twWith x s t = x - twTag x s * twUnit s + t * twUnit s := by unfold twWith; rw [if_pos ⟨s0, s1, t0, t1⟩]
  have HW := Lib.hid hw
  have wt : IntKind.u64.wrap t = t := by rw [IntKind.wrap_u64]; omega
  clear hw
  have b0 := with_bits x t 0 (by decide) x0 x1 t0 t1
  have b1 := with_bits x t 8 (by decide) x0 x1 t0 t1
  have b2 := with_bits x t 16 (by decide) x0 x1 t0 t1
  have b3 := with_bits x t 24 (by decide) x0 x1 t0 t1
  have HB := Lib.hid (And.intro b0 (And.intro b1 (And.intro b2 b3)))
  clear b0 b1 b2 b3
  rcases hs with rfl | rfl | rfl | rfl
  all_goals
    go_enter Tryz.func314, Tryz.ntmps314
    go_wp2_with fail
    refine (c_twthere _ _ true (by decide)).mono ?_
    rintro e w' ⟨rfl, rfl⟩
    go_wp2_with fail
    go_quiet (fail)
    go_wp2_with fail
    go_ret
    refine ⟨ret_int ?_, ⟨rfl, rfl, rfl, Nat.le_refl _, fun _ _ => rfl⟩⟩
    rw [HW.out]
    have := HB.out
    simp [twTag, twUnit, IntKind.wrap_u64] at this ⊢
    first | exact this.1 | exact this.2.1 | exact this.2.2.1 | exact this.2.2.2
end
section
open Go.RowKit Go.Shelf
set_option linter.unusedVariables false

theorem blk_lt {w : World} {a : Addr} {u : Value} (h : w.cell? a = some u) : a.block < w.heap.size := by
  unfold World.cell? at h
  split at h
  · rename_i he; exact (Array.getElem?_eq_some_iff.1 he).1
  · cases h
theorem below_setCell' {a w : World} {B : Nat} (h : Below B a w) {b : Nat} (hb : B ≤ b) (o : Nat) (u : Value) : Below B a (w.setCell ⟨b, o, none⟩ u) := h.setCell (p := ⟨b, o, none⟩) hb u
def slCs (p : Spt) (o : Otm) : List Value := [.int .u64 p.tags, .int .u64 p.item, .int .i64 p.s, .int .u64 o.w, .int .i64 o.ln]
def OUTSV : Value := .agg #[.func (.func 272) #[] #[], .func (.func 273) #[] #[], .func (.func 274) #[] #[]]
theorem c_outs (w : World) : Calls Tryz.prog 241 #[] w fun e w' => e = .returned OUTSV ∧ Below w.heap.size w w' := by
  go_enter Tryz.func241, Tryz.ntmps241
  go_wp2
  exact bodyPost_ret (v := OUTSV) (by simp [results, Tryz.results241, go_sem, OUTSV]) rfl ⟨rfl, (Below.refl _ _).alloc (Nat.le_refl _) _⟩
set_option maxHeartbeats 1000000 in
set_option maxRecDepth 100000 in
theorem c_OutOver {U : Nat} {w : World} (a : Int) (n : Nat) (h0 : w.cell? ⟨U, 0, none⟩ = some (.int .u64 a)) (h4 : w.cell? ⟨U, 4, none⟩ = some (.int .i64 n)) (ha : a ≠ 0) (hn : n ≤ 3) :
    Calls Tryz.prog 240 #[.pointer (some ⟨U, 0, none⟩)] w fun e w' => e = .returned (.bool (n == 3)) ∧ Below w.heap.size w w' := by
  have hU := blk_lt h0
  dsimp only at hU
  have d0 : (a == 0) = false := by simp [ha]
  have d3 : ((n : Int) == 3) = (n == 3) := by rw [Bool.eq_iff_iff]; simp; omega
  clear ha
  go_enter Tryz.func240, Tryz.ntmps240
  go_wp2_with fail
  refine wp_region_via (by kernel_rfl) (by kernel_rfl) ?_
  repeat (go_big_quiet_step ((first
    | (go_at_call 241; exact viaB (c_outs _)))))
  refine wpQuiet_nil ?_
  rintro _ ⟨e, rfl⟩
  go_wp2_with fail
  go_ret
  exact ⟨ret_bool (by first | exact d3 | rfl), via_below _ _⟩
theorem c_OutGone {U : Nat} {w : World} (a : Int) (n : Nat) (h0 : w.cell? ⟨U, 0, none⟩ = some (.int .u64 a)) (h4 : w.cell? ⟨U, 4, none⟩ = some (.int .i64 n)) (ha : a ≠ 0) :
    Calls Tryz.prog 192 #[.pointer (some ⟨U, 0, none⟩)] w fun e w' => e = .returned (.bool (decide (1 < n))) ∧ w = w' := by
  have d0 : (a != 0) = true := by simp [ha]
  have d3 : decide ((1 : Int) < (n : Int)) = decide (1 < n) := by rw [decide_eq_decide]; omega
  clear ha
  go_enter Tryz.func192, Tryz.ntmps192
  go_wp2
  go_ret
  exact ⟨ret_bool (by first | exact d3 | rfl), rfl⟩
section
variable {U : Nat} {w : World} {O : Om} {B : Wb} {f : Cf} {s : AW} {k : Nat}
set_option maxHeartbeats 2000000 in
set_option maxRecDepth 100000 in
theorem c_slLoad (cs : List Value) (a : Int) (hP : PW w O B f s) (hU : Ob w O k U cs) (hc : cs[0]? = some (.int .u64 a)) (h3 : ∃ v, cs[3]? = some v) (hk : 10 ≤ k) (hhi : ∀ j, O j ≠ 0 → j < w.heap.size) (a0 : 0 ≤ a) (a1 : a < 18446744073709551616) (n0 : 0 ≤ s.n) (n1 : s.n ≤ 4611686018427387904) :
    Calls Tryz.prog 295 #[.pointer (some ⟨U, 0, none⟩), .pointer (some ⟨B.p, 0, none⟩)] w (RP (SX k k) w O (.tuple #[]) fun W G => PW W G B f (awLoad a s) ∧ Ob W G k U (cs.set 3 (.int .u64 (s.M a)))) := by
  have HM : Hid (Me k k w O w O B f s k U cs) := Lib.hid (Me.start hhi hP hU)
  have p0 := hP.wo.c0
  have x0 := hU.c 0 _ hc
  obtain ⟨v3, h3⟩ := h3
  have H3 := Lib.hid h3
  have HC := Lib.hid hc
  have hl3 : 3 < cs.length := (List.getElem?_eq_some_iff.1 h3).1
  clear hP hU hhi hc h3
  go_enter Tryz.func295, Tryz.ntmps295
  go_wp2_with fail
  go_region_held3 (fun w' => w'.cell? ⟨B.p, 0, none⟩ = some (.pointer (some ⟨B.c, 0, none⟩)) ∧ w'.cell? ⟨U, 0, none⟩ = some (.int .u64 a)) (go_keep)
    ((go_at_call 115
      refine (c_LoadP a (w := w.drew) HM.out.drew.p HM.out.drew.e.hi a0 a1 n0 n1).mono ?_
      rintro e w1 ⟨rfl, G1, e1, P1⟩
      have M1 := Lib.hid (HM.out.drew.world hk e1 P1)
      have p01 := M1.out.p.wo.c0
      have x01 := M1.out.t.c 0 _ HC.out
      have z3 := M1.out.t.c 3 _ H3.out
      have zf := M1.out.t.f 3
      have M2 := Lib.hid (M1.out.set hk (Nat.le_refl _) (Nat.le_refl _) 3 (.int .u64 (s.M a)) hl3)
      have p02 := M2.out.p.wo.c0
      have x02 := M2.out.t.c 0 _ (by rw [List.getElem?_set_ne (by decide)]; exact HC.out)
      clear e1 P1))
  all_goals
    go_wp2_with fail
    go_end0
    exact M2.out.rp
set_option maxHeartbeats 2000000 in
set_option maxRecDepth 100000 in
theorem c_slStore (cs : List Value) (a wd sl t : Int) (hP : PW w O B f s) (hU : Ob w O k U cs) (hc : cs[0]? = some (.int .u64 a)) (h2 : cs[2]? = some (.int .i64 sl)) (h3 : cs[3]? = some (.int .u64 wd)) (hk : 10 ≤ k) (hhi : ∀ j, O j ≠ 0 → j < w.heap.size) (a0 : 0 ≤ a) (a1 : a < 18446744073709551616) (d0 : 0 ≤ wd) (d1 : wd < 18446744073709551616) (s0 : 0 ≤ sl) (s1 : sl ≤ 3) (t0 : 0 ≤ t) (t1 : t ≤ 255) (n0 : 0 ≤ s.n) (n1 : s.n ≤ 4611686018427387904) :
    Calls Tryz.prog 296 #[.pointer (some ⟨U, 0, none⟩), .pointer (some ⟨B.p, 0, none⟩), .int .i64 t] w (RP (SX k k) w O (.tuple #[]) fun W G => PW W G B f (awStore a (twWith wd sl t) s) ∧ Ob W G k U cs) := by
  have HM : Hid (Me k k w O w O B f s k U cs) := Lib.hid (Me.start hhi hP hU)
  have p0 := hP.wo.c0
  have x0 := hU.c 0 _ hc
  have x2 := hU.c 2 _ h2
  have x3 := hU.c 3 _ h3
  have hb := twWith_bd (s := sl) (t := t) d0 d1
  have HW := Lib.hid (fun W => c_TwWith wd sl t W d0 d1 s0 s1 t0 t1)
  obtain ⟨z, hz⟩ : ∃ z, z = twWith wd sl t := ⟨_, rfl⟩
  rw [← hz] at HW hb ⊢
  have H3 := Lib.hid (And.intro hc (And.intro h2 h3))
  clear hP hU hhi hc h2 h3 hz
  go_enter Tryz.func296, Tryz.ntmps296
  go_wp2_with fail
  go_region_held3 (fun w' => w'.cell? ⟨B.p, 0, none⟩ = some (.pointer (some ⟨B.c, 0, none⟩)) ∧ w'.cell? ⟨U, 0, none⟩ = some (.int .u64 a) ∧ w'.cell? ⟨U, 2, none⟩ = some (.int .i64 sl) ∧ w'.cell? ⟨U, 3, none⟩ = some (.int .u64 wd)) (go_keep)
    ((first
      | (go_at_call 314
         refine (HW.out _).mono ?_
         rintro e w1 ⟨rfl, hb1⟩
         have M1 := Lib.hid (HM.out.drew.below hb1)
         have p01 := M1.out.p.wo.c0
         have x01 := M1.out.t.c 0 _ H3.out.1
         have x21 := M1.out.t.c 2 _ H3.out.2.1
         have x31 := M1.out.t.c 3 _ H3.out.2.2
         clear hb1)
      | (go_at_call 24
         refine (c_StoreP a z M1.out.p M1.out.e.hi a0 a1 hb.1 hb.2 n0 n1).mono ?_
         rintro e w2 ⟨rfl, G2, e2, P2⟩
         have M2 := Lib.hid (M1.out.world hk e2 P2)
         have p02 := M2.out.p.wo.c0
         have x02 := M2.out.t.c 0 _ H3.out.1
         have x22 := M2.out.t.c 2 _ H3.out.2.1
         have x32 := M2.out.t.c 3 _ H3.out.2.2
         clear e2 P2)))
  all_goals
    go_wp2_with fail
    go_end0
    exact M2.out.rp
end
/-- An Out in block U. -/
structure OutAt (W : World) (G : Om) (k U : Nat) (p : Spt) (o : Otm) : Prop where
  ob : Ob W G k U (slCs p o)
theorem OutAt.ext {S : Nat → Prop} {O O' : Om} {w w' : World} {k U : Nat} {p : Spt} {o : Otm} (h : OutAt w O k U p o) (e : Ext S O w O' w') (h1 : ¬ S k) : OutAt w' O' k U p o := ⟨h.ob.ext e h1⟩
theorem OutAt.below {O : Om} {w w' : World} {k U : Nat} {p : Spt} {o : Otm} (h : OutAt w O k U p o) (hb : Below w.heap.size w w') : OutAt w' O k U p o := ⟨h.ob.below hb⟩
section
variable {U : Nat} {w : World} {O : Om} {B : Wb} {f : Cf} {s : AW} {k : Nat} {p : Spt}
theorem ixOuts : (∀ W, (Instr.index 362 OUTSV (.int .i64 0)).run Tryz.prog W = .ok (.func (.func 272) #[] #[]) W) ∧ (∀ W, (Instr.index 362 OUTSV (.int .i64 1)).run Tryz.prog W = .ok (.func (.func 273) #[] #[]) W) ∧ (∀ W, (Instr.index 362 OUTSV (.int .i64 2)).run Tryz.prog W = .ok (.func (.func 274) #[] #[]) W) := ⟨fun W => by kernel_rfl, fun W => by kernel_rfl, fun W => by kernel_rfl⟩
theorem c_Outfirst (o : Otm) (hP : PW w O B f s) (hU : OutAt w O k U p o) (hp : p.ok) (hk : 10 ≤ k) (hhi : ∀ j, O j ≠ 0 → j < w.heap.size) (n0 : 0 ≤ s.n) (n1 : s.n ≤ 4611686018427387904) :
    Calls Tryz.prog 272 #[.pointer (some ⟨U, 0, none⟩), .pointer (some ⟨B.p, 0, none⟩)] w (RP (SX k k) w O (.tuple #[]) fun W G => PW W G B f (awLoad p.tags s) ∧ OutAt W G k U p ⟨o.ln, s.M p.tags⟩) := by
  have ht := hp.tags
  have HL := Lib.hid (c_slLoad _ p.tags hP hU.ob rfl ⟨_, rfl⟩ hk hhi (by omega) (by omega) n0 n1)
  clear hP hU hhi hp ht
  go_enter Tryz.func272, Tryz.ntmps272
  go_wp2_with fail
  refine HL.out.mono ?_
  rintro e w1 ⟨rfl, G1, e1, P1, U1⟩
  have HE := Lib.hid (And.intro e1 (And.intro P1 (OutAt.mk (p := p) (o := ⟨o.ln, s.M p.tags⟩) U1)))
  clear e1 P1 U1 HL
  go_wp2
  go_end0
  exact ⟨rfl, G1, HE.out⟩
theorem c_Outsecond (o : Otm) (hP : PW w O B f s) (hU : OutAt w O k U p o) (hp : p.ok) (hk : 10 ≤ k) (hhi : ∀ j, O j ≠ 0 → j < w.heap.size) (w0 : 0 ≤ o.w) (w1 : o.w < 18446744073709551616) (n0 : 0 ≤ s.n) (n1 : s.n ≤ 4611686018427387904) :
    Calls Tryz.prog 273 #[.pointer (some ⟨U, 0, none⟩), .pointer (some ⟨B.p, 0, none⟩)] w (RP (SX k k) w O (.tuple #[]) fun W G => PW W G B f (awStore p.tags (twWith o.w p.s 0) s) ∧ OutAt W G k U p o) := by
  have ht := hp.tags
  have HL := Lib.hid (c_slStore _ p.tags o.w p.s 0 hP hU.ob rfl rfl rfl hk hhi (by omega) (by omega) w0 w1 hp.s0 hp.s1 (by decide) (by decide) n0 n1)
  clear hP hU hhi hp ht
  go_enter Tryz.func273, Tryz.ntmps273
  go_wp2_with fail
  refine HL.out.mono ?_
  rintro e w1 ⟨rfl, G1, e1, P1, U1⟩
  have HE := Lib.hid (And.intro e1 (And.intro P1 (OutAt.mk (p := p) (o := o) U1)))
  clear e1 P1 U1 HL
  go_wp2
  go_end0
  exact ⟨rfl, G1, HE.out⟩
set_option maxHeartbeats 1000000 in
theorem c_Outthird (o : Otm) (hP : PW w O B f s) (hU : OutAt w O k U p o) (hp : p.ok) (hk : 10 ≤ k) (hhi : ∀ j, O j ≠ 0 → j < w.heap.size) (n0 : 0 ≤ s.n) (n1 : s.n ≤ 4611686018427387904) :
    Calls Tryz.prog 274 #[.pointer (some ⟨U, 0, none⟩), .pointer (some ⟨B.p, 0, none⟩)] w (RP (SX k k) w O (.tuple #[]) fun W G => PW W G B f (awStore p.item 0 s) ∧ OutAt W G k U p o) := by
  have ht := hp.item
  have HM : Hid (Me k k w O w O B f s k U (slCs p o)) := Lib.hid (Me.start hhi hP hU.ob)
  have p0 := hP.wo.c0
  have x1 := hU.ob.c 1 _ rfl
  obtain ⟨it, hit⟩ : ∃ it, it = p.item := ⟨_, rfl⟩
  rw [← hit] at ht x1 ⊢
  have HIT := Lib.hid hit
  have hb : 0 ≤ it ∧ it < 18446744073709551616 := by omega
  clear hP hU hhi hp ht hit
  go_enter Tryz.func274, Tryz.ntmps274
  go_wp2_with fail
  go_region_held3 (fun w' => w'.cell? ⟨B.p, 0, none⟩ = some (.pointer (some ⟨B.c, 0, none⟩)) ∧ w'.cell? ⟨U, 1, none⟩ = some (.int .u64 it)) (go_keep)
    ((go_at_call 24
      refine (c_StoreP it 0 (w := w.drew) HM.out.drew.p HM.out.drew.e.hi hb.1 hb.2 (by decide) (by decide) n0 n1).mono ?_
      rintro e w2 ⟨rfl, G2, e2, P2⟩
      have M2 := Lib.hid (HM.out.drew.world hk e2 P2)
      have p02 := M2.out.p.wo.c0
      have x12 := M2.out.t.c 1 _ rfl
      rw [← HIT.out] at x12
      clear e2 P2))
  all_goals
    go_wp2_with fail
    go_end0
    obtain ⟨e0, G, e1, P1, t1⟩ := M2.out.rp (v := .tuple #[])
    exact ⟨rfl, G, e1, P1, ⟨t1⟩⟩
theorem outStep_ln (p : Spt) (s : AW) (o : Otm) (h : o.ln < 3) : (outStep p s o).2.ln = o.ln + 1 := by
  unfold outStep
  split
  · rename_i e; rw [e]
  · split
    · rename_i e; rw [e]
    · split
      · rename_i e; rw [e]
      · omega
set_option maxHeartbeats 2000000 in
set_option maxRecDepth 100000 in
theorem c_OutStep (o : Otm) (hP : PW w O B f s) (hU : OutAt w O k U p o) (hp : p.ok) (ho : o.ln < 3) (w0 : 0 ≤ o.w) (w1 : o.w < 18446744073709551616) (hk : 10 ≤ k) (hhi : ∀ j, O j ≠ 0 → j < w.heap.size) (n0 : 0 ≤ s.n) (n1 : s.n ≤ 4611686018427387904) :
    Calls Tryz.prog 193 #[.pointer (some ⟨U, 0, none⟩), .pointer (some ⟨B.p, 0, none⟩)] w (RP (SX k k) w O (.bool (o.ln == 2)) fun W G => PW W G B f (outStep p s o).1 ∧ OutAt W G k U p (outStep p s o).2) := by
  obtain ⟨ln, wd⟩ := o
  dsimp only at ho w0 w1
  have x0 := hU.ob.c 0 _ rfl
  have x4 := hU.ob.c 4 _ rfl
  have ht := hp.tags
  have ht0 : p.tags ≠ 0 := by omega
  obtain ⟨ix0, ix1, ix2⟩ := ixOuts
  have hk0 : ∀ args W, (callFunc 272 args).run Tryz.prog W = .ok (.enter 272 args) W := enters_of Tryz.func272 (by kernel_rfl) rfl
  have hk1 : ∀ args W, (callFunc 273 args).run Tryz.prog W = .ok (.enter 273 args) W := enters_of Tryz.func273 (by kernel_rfl) rfl
  have hk2 : ∀ args W, (callFunc 274 args).run Tryz.prog W = .ok (.enter 274 args) W := enters_of Tryz.func274 (by kernel_rfl) rfl
  have HU := Lib.hid hU
  have HP := Lib.hid hP
  have HH := Lib.hid hhi
  have HB := Lib.hid hp
  have hln : ln = 0 ∨ ln = 1 ∨ ln = 2 := by omega
  obtain ⟨ta, hta⟩ : ∃ ta, ta = p.tags := ⟨_, rfl⟩
  rw [← hta] at x0 ht0
  have HT := Lib.hid hta
  clear hU hP hhi hp ht ho hta
  rcases hln with rfl | rfl | rfl
  · clear hk1 hk2 ix1 ix2
    go_enter Tryz.func193, Tryz.ntmps193
    go_wp2_with fail
    refine (c_OutOver ta 0 x0 x4 ht0 (by decide)).mono ?_
    rintro e wa ⟨rfl, hba⟩
    have P1 := Lib.hid (HP.out.below HH.out hba)
    have U1 := Lib.hid (HU.out.below hba)
    have E1 := Lib.hid (Ext.of_below (S := SX k k) HH.out hba)
    have y4 := U1.out.ob.c 4 _ rfl
    have yl := U1.out.ob.lt
    clear hba x0 x4
    go_wp2_with fail
    go_region_held3 (fun w' => w'.cell? ⟨U, 4, none⟩ = some (.int .i64 0)) (go_keep)
      ((first
        | (go_at_call 241
           refine (c_outs _).mono ?_
           rintro e wb ⟨rfl, hbb⟩
           have P2 := Lib.hid ((P1.out.below E1.out.hi (drew_below wa)).below E1.out.drew.hi hbb)
           have U2 := Lib.hid ((U1.out.below (drew_below wa)).below hbb)
           have E2 := Lib.hid (E1.out.drew.below hbb)
           have y42 := U2.out.ob.c 4 _ rfl
           clear hbb)
        | (go_at_call 272
           refine (c_Outfirst ⟨0, wd⟩ P2.out U2.out HB.out hk E2.out.hi n0 n1).mono ?_
           rintro e wc ⟨rfl, G3, e3, P3, U3⟩
           have M3 : Hid (Me k k w O wc G3 B f (awLoad p.tags s) k U _) := Lib.hid ⟨E2.out.trans e3, P3, U3.ob⟩
           have y43 := M3.out.t.c 4 _ rfl
           clear e3 P3 U3)))
    all_goals
      have z4 := M3.out.t.c 4 _ rfl
      have zf := M3.out.t.f 4
      have M4 := Lib.hid (M3.out.set hk (Nat.le_refl _) (Nat.le_refl _) 4 (.int .i64 ((1 : Nat) : Int)) (by simp [slCs]))
      have q0 := M4.out.t.c 0 _ rfl
      have q4 := M4.out.t.c 4 _ rfl
      go_wp2_with fail
      refine (c_OutOver p.tags 1 q0 q4 (by rw [← HT.out]; exact ht0) (by decide)).mono ?_
      rintro e wd ⟨rfl, hbd⟩
      have M5 := Lib.hid (M4.out.below hbd)
      clear hbd q0 q4
      go_wp2_with fail
      go_ret
      exact ⟨rfl, _, M5.out.e, M5.out.p, ⟨M5.out.t⟩⟩
  · clear hk0 hk2 ix0 ix2
    go_enter Tryz.func193, Tryz.ntmps193
    go_wp2_with fail
    refine (c_OutOver ta 1 x0 x4 ht0 (by decide)).mono ?_
    rintro e wa ⟨rfl, hba⟩
    have P1 := Lib.hid (HP.out.below HH.out hba)
    have U1 := Lib.hid (HU.out.below hba)
    have E1 := Lib.hid (Ext.of_below (S := SX k k) HH.out hba)
    have y4 := U1.out.ob.c 4 _ rfl
    have yl := U1.out.ob.lt
    clear hba x0 x4
    go_wp2_with fail
    go_region_held3 (fun w' => w'.cell? ⟨U, 4, none⟩ = some (.int .i64 1)) (go_keep)
      ((first
        | (go_at_call 241
           refine (c_outs _).mono ?_
           rintro e wb ⟨rfl, hbb⟩
           have P2 := Lib.hid ((P1.out.below E1.out.hi (drew_below wa)).below E1.out.drew.hi hbb)
           have U2 := Lib.hid ((U1.out.below (drew_below wa)).below hbb)
           have E2 := Lib.hid (E1.out.drew.below hbb)
           have y42 := U2.out.ob.c 4 _ rfl
           clear hbb)
        | (go_at_call 273
           refine (c_Outsecond ⟨1, wd⟩ P2.out U2.out HB.out hk E2.out.hi w0 w1 n0 n1).mono ?_
           rintro e wc ⟨rfl, G3, e3, P3, U3⟩
           have M3 : Hid (Me k k w O wc G3 B f (awStore p.tags (twWith wd p.s 0) s) k U _) := Lib.hid ⟨E2.out.trans e3, P3, U3.ob⟩
           have y43 := M3.out.t.c 4 _ rfl
           clear e3 P3 U3)))
    all_goals
      have z4 := M3.out.t.c 4 _ rfl
      have zf := M3.out.t.f 4
      have M4 := Lib.hid (M3.out.set hk (Nat.le_refl _) (Nat.le_refl _) 4 (.int .i64 ((2 : Nat) : Int)) (by simp [slCs]))
      have q0 := M4.out.t.c 0 _ rfl
      have q4 := M4.out.t.c 4 _ rfl
      go_wp2_with fail
      refine (c_OutOver p.tags 2 q0 q4 (by rw [← HT.out]; exact ht0) (by decide)).mono ?_
      rintro e wd ⟨rfl, hbd⟩
      have M5 := Lib.hid (M4.out.below hbd)
      clear hbd q0 q4
      go_wp2_with fail
      go_ret
      exact ⟨rfl, _, M5.out.e, M5.out.p, ⟨M5.out.t⟩⟩
  · clear hk0 hk1 ix0 ix1
    go_enter Tryz.func193, Tryz.ntmps193
    go_wp2_with fail
    refine (c_OutOver ta 2 x0 x4 ht0 (by decide)).mono ?_
    rintro e wa ⟨rfl, hba⟩
    have P1 := Lib.hid (HP.out.below HH.out hba)
    have U1 := Lib.hid (HU.out.below hba)
    have E1 := Lib.hid (Ext.of_below (S := SX k k) HH.out hba)
    have y4 := U1.out.ob.c 4 _ rfl
    have yl := U1.out.ob.lt
    clear hba x0 x4
    go_wp2_with fail
    go_region_held3 (fun w' => w'.cell? ⟨U, 4, none⟩ = some (.int .i64 2)) (go_keep)
      ((first
        | (go_at_call 241
           refine (c_outs _).mono ?_
           rintro e wb ⟨rfl, hbb⟩
           have P2 := Lib.hid ((P1.out.below E1.out.hi (drew_below wa)).below E1.out.drew.hi hbb)
           have U2 := Lib.hid ((U1.out.below (drew_below wa)).below hbb)
           have E2 := Lib.hid (E1.out.drew.below hbb)
           have y42 := U2.out.ob.c 4 _ rfl
           clear hbb)
        | (go_at_call 274
           refine (c_Outthird ⟨2, wd⟩ P2.out U2.out HB.out hk E2.out.hi n0 n1).mono ?_
           rintro e wc ⟨rfl, G3, e3, P3, U3⟩
           have M3 : Hid (Me k k w O wc G3 B f (awStore p.item 0 s) k U _) := Lib.hid ⟨E2.out.trans e3, P3, U3.ob⟩
           have y43 := M3.out.t.c 4 _ rfl
           clear e3 P3 U3)))
    all_goals
      have z4 := M3.out.t.c 4 _ rfl
      have zf := M3.out.t.f 4
      have M4 := Lib.hid (M3.out.set hk (Nat.le_refl _) (Nat.le_refl _) 4 (.int .i64 ((3 : Nat) : Int)) (by simp [slCs]))
      have q0 := M4.out.t.c 0 _ rfl
      have q4 := M4.out.t.c 4 _ rfl
      go_wp2_with fail
      refine (c_OutOver p.tags 3 q0 q4 (by rw [← HT.out]; exact ht0) (by decide)).mono ?_
      rintro e wd ⟨rfl, hbd⟩
      have M5 := Lib.hid (M4.out.below hbd)
      clear hbd q0 q4
      go_wp2_with fail
      go_ret
      exact ⟨rfl, _, M5.out.e, M5.out.p, ⟨M5.out.t⟩⟩
set_option maxHeartbeats 2000000 in
set_option maxRecDepth 100000 in
theorem c_of (hp : p.ok) : Calls Tryz.prog 123 #[.agg #[.int .i64 p.b, .int .i64 p.q, .int .i64 p.s]] w fun e w' => e = .returned (.agg #[.int .u64 p.tags, .int .u64 p.item, .int .i64 p.s, .int .u64 0, .int .i64 0]) ∧ Below w.heap.size w w' := by
  have hit := hp.item
  have htg := hp.tags
  have hq2 := hp.q2
  have HI := Lib.hid (fun W => c_Item p.b p.q p.s W (by have := hp.b0; omega) (by have := hp.b1; omega) (by have := hp.q0; omega) (by omega) (by have := hp.s0; omega) (by have := hp.s1; omega))
  have HT := Lib.hid (fun W => c_Tags p.b p.q W (by have := hp.b0; omega) (by have := hp.b1; omega) (by have := hp.q0; omega) (by omega))
  obtain ⟨ia, hia⟩ : ∃ ia, ia = p.item := ⟨_, rfl⟩
  obtain ⟨ta, hta⟩ : ∃ ta, ta = p.tags := ⟨_, rfl⟩
  have hia2 : plItem p.b p.q p.s = ia := hia.symm
  have hta2 : plTags p.b p.q = ta := hta.symm
  rw [hia2] at HI
  rw [hta2] at HT
  rw [← hia] at hit
  have di : (ia == 0) = false := by rw [beq_eq_false_iff_ne]; omega
  rw [← hia, ← hta]
  obtain ⟨b, hb⟩ : ∃ z, z = p.b := ⟨_, rfl⟩
  obtain ⟨q, hq⟩ : ∃ z, z = p.q := ⟨_, rfl⟩
  obtain ⟨sl, hs⟩ : ∃ z, z = p.s := ⟨_, rfl⟩
  rw [← hb, ← hq, ← hs] at HI
  rw [← hb, ← hq] at HT
  rw [← hb, ← hq, ← hs]
  clear hit htg hq2 hia hta hia2 hta2 hp hb hq hs
  go_enter Tryz.func123, Tryz.ntmps123
  go_wp2_with fail
  obtain ⟨W, hW⟩ : ∃ W, W = (w.alloc (.cells #[.int .i64 b, .int .i64 q, .int .i64 sl] 56)).alloc (.cells #[.int .u64 0, .int .u64 0, .int .i64 0, .int .u64 0, .int .i64 0] 236) := ⟨_, rfl⟩
  have hB : Below w.heap.size w W := by rw [hW]; exact ((Below.refl _ _).alloc (Nat.le_refl _) _).alloc (by simp) _
  have y0 : W.cell? ⟨w.heap.size, 0, none⟩ = some (.int .i64 b) := by rw [hW]; simp
  have y1 : W.cell? ⟨w.heap.size, 1, none⟩ = some (.int .i64 q) := by rw [hW]; simp
  have y2 : W.cell? ⟨w.heap.size, 2, none⟩ = some (.int .i64 sl) := by rw [hW]; simp
  have z0 : W.cell? ⟨w.heap.size + 1, 0, none⟩ = some (.int .u64 0) := by rw [hW]; simp
  have z1 : W.cell? ⟨w.heap.size + 1, 1, none⟩ = some (.int .u64 0) := by rw [hW]; simp
  have z2 : W.cell? ⟨w.heap.size + 1, 2, none⟩ = some (.int .i64 0) := by rw [hW]; simp
  have z3 : W.cell? ⟨w.heap.size + 1, 3, none⟩ = some (.int .u64 0) := by rw [hW]; simp
  have z4 : W.cell? ⟨w.heap.size + 1, 4, none⟩ = some (.int .i64 0) := by rw [hW]; simp
  have zf : ∀ j, W.frozen? ⟨w.heap.size + 1, j, none⟩ = false := fun j => by rw [hW]; exact frozen_newA _ #[.int .u64 0, .int .u64 0, .int .i64 0, .int .u64 0, .int .i64 0] _ _ (by simp) j
  have hl : w.heap.size < W.heap.size := by rw [hW]; simp; omega
  have hl2 : w.heap.size + 1 < W.heap.size := by rw [hW]; simp
  have HB := Lib.hid hB
  have HZ := Lib.hid (And.intro z0 (And.intro z1 (And.intro z2 (And.intro z3 (And.intro z4 zf)))))
  rw [← hW]
  clear hW hB
  refine (HI.out _).mono ?_
  rintro e w1 ⟨rfl, hb1⟩
  have k0 := (hb1.cell (p := ⟨w.heap.size, 0, none⟩) hl).trans y0
  have k1 := (hb1.cell (p := ⟨w.heap.size, 1, none⟩) hl).trans y1
  have k2 := (hb1.cell (p := ⟨w.heap.size, 2, none⟩) hl).trans y2
  have HK := Lib.hid (fun j => hb1.cell (p := ⟨w.heap.size + 1, j, none⟩) hl2)
  have HF := Lib.hid (fun j => (hb1.frozen (p := ⟨w.heap.size + 1, j, none⟩) hl2).trans (HZ.out.2.2.2.2.2 j))
  have HB1 := Lib.hid (HB.out.trans (hb1.mono HB.out.size))
  have m1 : w.heap.size < w1.heap.size := Nat.lt_of_lt_of_le hl hb1.size
  have m2 : w.heap.size + 1 < w1.heap.size := Nat.lt_of_lt_of_le hl2 hb1.size
  clear hb1 y0 y1 y2 z0 z1 z2 z3 z4 zf hl hl2
  go_wp2_with fail
  go_region_held3 (fun w' => w'.cell? ⟨w.heap.size, 0, none⟩ = some (.int .i64 b) ∧ w'.cell? ⟨w.heap.size, 1, none⟩ = some (.int .i64 q) ∧ w'.cell? ⟨w.heap.size, 2, none⟩ = some (.int .i64 sl)) (go_keep)
    ((first
      | (go_at_call 37
         refine (HT.out _).mono ?_
         rintro e w2 ⟨rfl, hb2⟩
         have i0 := (hb2.cell (p := ⟨w.heap.size, 0, none⟩) m1).trans k0
         have i1 := (hb2.cell (p := ⟨w.heap.size, 1, none⟩) m1).trans k1
         have i2 := (hb2.cell (p := ⟨w.heap.size, 2, none⟩) m1).trans k2
         have HB2 := Lib.hid (HB1.out.drew.trans (hb2.mono HB1.out.size))
         have HK2 := Lib.hid (fun j => (hb2.cell (p := ⟨w.heap.size + 1, j, none⟩) m2).trans (HK.out j))
         have HF2 := Lib.hid (fun j => (hb2.frozen (p := ⟨w.heap.size + 1, j, none⟩) m2).trans (HF.out j))
         have m12 : w.heap.size < w2.heap.size := Nat.lt_of_lt_of_le m1 hb2.size
         have m22 : w.heap.size + 1 < w2.heap.size := Nat.lt_of_lt_of_le m2 hb2.size
         clear hb2)
      | (go_at_call 106
         refine (HI.out _).mono ?_
         rintro e w3 ⟨rfl, hb3⟩
         have j0 := (hb3.cell (p := ⟨w.heap.size, 0, none⟩) m12).trans i0
         have j1 := (hb3.cell (p := ⟨w.heap.size, 1, none⟩) m12).trans i1
         have j2 := (hb3.cell (p := ⟨w.heap.size, 2, none⟩) m12).trans i2
         have HB3 := Lib.hid (HB2.out.trans (hb3.mono HB2.out.size))
         have m13 : w.heap.size < w3.heap.size := Nat.lt_of_lt_of_le m12 hb3.size
         have m23 : w.heap.size + 1 < w3.heap.size := Nat.lt_of_lt_of_le m22 hb3.size
         have e0 := ((hb3.cell (p := ⟨w.heap.size + 1, 0, none⟩) m22).trans (HK2.out 0)).trans HZ.out.1
         have e1 := ((hb3.cell (p := ⟨w.heap.size + 1, 1, none⟩) m22).trans (HK2.out 1)).trans HZ.out.2.1
         have e2 := ((hb3.cell (p := ⟨w.heap.size + 1, 2, none⟩) m22).trans (HK2.out 2)).trans HZ.out.2.2.1
         have e3 := ((hb3.cell (p := ⟨w.heap.size + 1, 3, none⟩) m22).trans (HK2.out 3)).trans HZ.out.2.2.2.1
         have e4 := ((hb3.cell (p := ⟨w.heap.size + 1, 4, none⟩) m22).trans (HK2.out 4)).trans HZ.out.2.2.2.2.1
         have g0 := (hb3.frozen (p := ⟨w.heap.size + 1, 0, none⟩) m22).trans (HF2.out 0)
         have g1 := (hb3.frozen (p := ⟨w.heap.size + 1, 1, none⟩) m22).trans (HF2.out 1)
         have g2 := (hb3.frozen (p := ⟨w.heap.size + 1, 2, none⟩) m22).trans (HF2.out 2)
         have g3 := (hb3.frozen (p := ⟨w.heap.size + 1, 3, none⟩) m22).trans (HF2.out 3)
         have g4 := (hb3.frozen (p := ⟨w.heap.size + 1, 4, none⟩) m22).trans (HF2.out 4)
         clear hb3)))
  all_goals
    go_wp2_with fail
    exact bodyPost_ret (v := .agg #[.int .u64 ta, .int .u64 ia, .int .i64 sl, .int .u64 0, .int .i64 0]) (by simp [results, Tryz.results123, go_sem, *]) rfl ⟨rfl, by (repeat (first | exact HB3.out | exact HB3.out.drew | (with_reducible refine below_setCell' ?_ (by omega) _ _) | (with_reducible refine Below.drew ?_)))⟩
theorem c_NewOut (hp : p.ok) (hhi : ∀ j, O j ≠ 0 → j < w.heap.size) : Calls Tryz.prog 65 #[.agg #[.int .i64 p.b, .int .i64 p.q, .int .i64 p.s]] w fun e w' => ∃ U, RP (fun t => t = k) w O (.pointer (some ⟨U, 0, none⟩)) (fun W G => OutAt W G k U p ⟨0, 0⟩) e w' := by
  have HO := Lib.hid (fun (W : World) => c_of (w := W) hp)
  have HH := Lib.hid hhi
  clear hp hhi
  go_enter Tryz.func65, Tryz.ntmps65
  go_wp2_with fail
  refine (HO.out _).mono ?_
  rintro e w1 ⟨rfl, hb⟩
  have HB : Hid (Below w.heap.size w w1) := Lib.hid (((Below.refl _ _).alloc (Nat.le_refl _) _).trans (hb.mono (by simp)))
  obtain ⟨G2, e2, x2, -⟩ := alloc_ob (Ext.of_below (S := fun t => t = k) HH.out HB.out).hi k (slCs p ⟨0, 0⟩).toArray 239 w1.heap.size rfl
  have HE := Lib.hid (And.intro ((Ext.of_below HH.out HB.out).trans e2) x2)
  clear hb e2 x2
  go_wp2_with fail
  go_ret
  exact ⟨_, rfl, G2, HE.out.1, ⟨HE.out.2⟩⟩
end
end
section
open Go.RowKit Go.Shelf
set_option linter.unusedVariables false

def evCs (z : Evm) (all : Int) (a o l : Option Addr) : List Value := [.int .i64 z.ln, .int .u64 z.t, .int .i64 all, .int .i64 z.h, .int .i64 z.n, .int .i64 z.ref, .int .u64 z.mw, .pointer a, .pointer o, .pointer l]
/-- An Evict in block X. -/
structure EvAt (W : World) (G : Om) (k X : Nat) (z : Evm) : Prop where
  ex : ∃ (all : Int) (a o l : Option Addr), Ob W G k X (evCs z all a o l) ∧ (3 ≤ z.ln → all = plSpots z.t) ∧
    (z.ln = 7 → ∃ A, a = some ⟨A, 0, none⟩ ∧ MkAt W G (k + 1) A [(evSpot z).ver]) ∧
    (z.ln = 7 ∨ z.ln = 8 → ∃ U, o = some ⟨U, 0, none⟩ ∧ OutAt W G (k + 3) U (evSpot z) z.o) ∧
    (z.ln = 7 ∨ z.ln = 8 ∨ z.ln = 9 → ∃ L, l = some ⟨L, 0, none⟩ ∧ MkAt W G (k + 4) L [(evSpot z).ver])
theorem EvAt.ext {S : Nat → Prop} {O O' : Om} {w w' : World} {k X : Nat} {z : Evm} (h : EvAt w O k X z) (e : Ext S O w O' w') (hs : ∀ t, k ≤ t → t < k + 6 → ¬ S t) : EvAt w' O' k X z := by
  obtain ⟨all, a, o, l, h1, h2, h3, h4, h5⟩ := h.ex
  exact ⟨all, a, o, l, h1.ext e (hs k (by omega) (by omega)), h2, fun g => (h3 g).imp fun A h => ⟨h.1, h.2.ext e (hs _ (by omega) (by omega)) (hs _ (by omega) (by omega))⟩, fun g => (h4 g).imp fun A h => ⟨h.1, h.2.ext e (hs _ (by omega) (by omega))⟩, fun g => (h5 g).imp fun A h => ⟨h.1, h.2.ext e (hs _ (by omega) (by omega)) (hs _ (by omega) (by omega))⟩⟩
theorem EvAt.below {O : Om} {w w' : World} {k X : Nat} {z : Evm} (h : EvAt w O k X z) (hb : Below w.heap.size w w') : EvAt w' O k X z := by
  obtain ⟨all, a, o, l, h1, h2, h3, h4, h5⟩ := h.ex
  exact ⟨all, a, o, l, h1.below hb, h2, fun g => (h3 g).imp fun A h => ⟨h.1, h.2.below hb⟩, fun g => (h4 g).imp fun A h => ⟨h.1, h.2.below hb⟩, fun g => (h5 g).imp fun A h => ⟨h.1, h.2.below hb⟩⟩
theorem EvAt.simple {W : World} {G : Om} {k X : Nat} {z : Evm} (all : Int) (a o l : Option Addr) (h : Ob W G k X (evCs z all a o l)) (ha : 3 ≤ z.ln → all = plSpots z.t) (h7 : z.ln ≠ 7) (h8 : z.ln ≠ 8) (h9 : z.ln ≠ 9) : EvAt W G k X z :=
  ⟨all, a, o, l, h, ha, fun e => absurd e h7, fun e => by rcases e with e | e; exact absurd e h7; exact absurd e h8, fun e => by rcases e with e | e | e; exact absurd e h7; exact absurd e h8; exact absurd e h9⟩
theorem EvAt.cell0 {W : World} {G : Om} {k X : Nat} {z : Evm} (h : EvAt W G k X z) : W.cell? ⟨X, 0, none⟩ = some (.int .i64 z.ln) := by
  obtain ⟨all, a, o, l, h1, -⟩ := h.ex
  exact h1.c 0 _ rfl
def EPost (w : World) (O : Om) (B : Wb) (f : Cf) (k X : Nat) (y : AW × Evm) (e : Ending) (w' : World) : Prop :=
  RP (SX k (k + 5)) w O (.bool (evOver y.2)) (fun W G => PW W G B f y.1 ∧ EvAt W G k X y.2) e w'
theorem Me.oth {S : Nat → Prop} {a b k T : Nat} {cs : List Value} {O O0 O1 : Om} {w w0 w1 : World} {B : Wb} {f : Cf} {s : AW} (h : Me a b w0 O0 w O B f s k T cs) (hk : 10 ≤ k) (e : Ext S O w O1 w1) (hS : ∀ t, S t → 10 ≤ t ∧ a ≤ t ∧ t ≤ b ∧ t ≠ k) : Me a b w0 O0 w1 O1 B f s k T cs :=
  ⟨h.e.trans (e.mono fun t _ ht => .inr ⟨(hS t ht).2.1, (hS t ht).2.2.1⟩), h.p.ext e (fun g => by have := (hS 1 g).1; omega) (fun g => by have := (hS 2 g).1; omega) (fun g => by have := (hS 3 g).1; omega) (fun g => by have := (hS 4 g).1; omega), h.t.ext e fun g => (hS k g).2.2.2 rfl⟩
theorem c_EvOver {X : Nat} {ln : Int} {w : World} (h : w.cell? ⟨X, 0, none⟩ = some (.int .i64 ln)) : Calls Tryz.prog 51 #[.pointer (some ⟨X, 0, none⟩)] w fun e w' => e = .returned (.bool (ln == 0)) ∧ w = w' := by
  go_enter Tryz.func51, Tryz.ntmps51
  go_wp2
  go_ret
  exact ⟨rfl, rfl⟩
theorem c_NewEvict {w : World} {O : Om} (k : Nat) (hhi : ∀ j, O j ≠ 0 → j < w.heap.size) : Calls Tryz.prog 49 #[] w fun e w' => ∃ X, RP (fun t => t = k) w O (.pointer (some ⟨X, 0, none⟩)) (fun W G => EvAt W G k X evNew) e w' := by
  obtain ⟨O1, e1, x1, -⟩ := alloc_ob hhi k (evCs evNew 0 none none none).toArray 162 w.heap.size rfl
  go_enter Tryz.func49, Tryz.ntmps49
  go_wp2
  go_ret
  exact ⟨w.heap.size, rfl, O1, e1, EvAt.simple 0 none none none x1 (fun h => absurd (show (3 : Int) ≤ 1 from h) (by decide)) (by decide) (by decide) (by decide)⟩
section
variable {X : Nat} {w : World} {O : Om} {B : Wb} {f : Cf} {s : AW} {k : Nat}
set_option maxHeartbeats 1000000 in
set_option maxRecDepth 100000 in
theorem c_EvSpot (t h n : Int) (h1 : w.cell? ⟨X, 1, none⟩ = some (.int .u64 t)) (h3 : w.cell? ⟨X, 3, none⟩ = some (.int .i64 h)) (h4 : w.cell? ⟨X, 4, none⟩ = some (.int .i64 n)) (t0 : 0 ≤ t) (t1 : t < 18446744073709551616) (b0 : 0 ≤ h) (b1 : h < 32768) (n0 : 0 ≤ n) (n1 : n ≤ 65536) :
    Calls Tryz.prog 113 #[.pointer (some ⟨X, 0, none⟩)] w fun e w' => e = .returned (.agg #[.int .i64 (plAt t (h + n)).b, .int .i64 (plAt t (h + n)).q, .int .i64 (plAt t (h + n)).s]) ∧ Below w.heap.size w w' := by
  have hl := blk_lt h1
  dsimp only at hl
  have hw : wrap64 (h + n) = h + n := by unfold wrap64; omega
  have hw2 : IntKind.i64.wrap (h + n) = h + n := by simp [IntKind.wrap, IntKind.bits, IntKind.signed]; omega
  have HA := Lib.hid (fun W => c_At t (h + n) W t0 t1 (by omega) (by omega))
  obtain ⟨v, hv⟩ : ∃ v, v = plAt t (h + n) := ⟨_, rfl⟩
  have e1 : plAtBits t (h + n) = v.b := by rw [hv]; rfl
  have e2 : plAtN t (h + n) / 4 = v.q := by rw [hv]; rfl
  have e3 : (h + n) % plSpots t % 4 = v.s := by rw [hv]; rfl
  rw [e1, e2, e3] at HA
  rw [← hv]
  clear t0 t1 b0 b1 n0 n1 e1 e2 e3 hv
  go_enter Tryz.func113, Tryz.ntmps113
  go_wp2_with fail
  obtain ⟨W, hW⟩ : ∃ W, W = w.alloc (.cells #[.int .i64 0, .int .i64 0, .int .i64 0] 56) := ⟨_, rfl⟩
  have hB : Below w.heap.size w W := by rw [hW]; exact (Below.refl _ _).alloc (Nat.le_refl _) _
  have y1 := (hB.cell (p := ⟨X, 1, none⟩) hl).trans h1
  have y3 := (hB.cell (p := ⟨X, 3, none⟩) hl).trans h3
  have y4 := (hB.cell (p := ⟨X, 4, none⟩) hl).trans h4
  have hlW : X < W.heap.size := Nat.lt_of_lt_of_le hl hB.size
  have hwl : w.heap.size < W.heap.size := by rw [hW]; simp
  have hne : ¬ X = w.heap.size := by omega
  have hne2 : ¬ w.heap.size = X := by omega
  have z0 : W.cell? ⟨w.heap.size, 0, none⟩ = some (.int .i64 0) := by rw [hW]; simp
  have z1 : W.cell? ⟨w.heap.size, 1, none⟩ = some (.int .i64 0) := by rw [hW]; simp
  have z2 : W.cell? ⟨w.heap.size, 2, none⟩ = some (.int .i64 0) := by rw [hW]; simp
  have zf : ∀ j, W.frozen? ⟨w.heap.size, j, none⟩ = false := fun j => by rw [hW]; exact frozen_newA w #[.int .i64 0, .int .i64 0, .int .i64 0] _ _ rfl j
  have HZ := Lib.hid (And.intro z0 (And.intro z1 (And.intro z2 zf)))
  have HB := Lib.hid hB
  rw [← hW]
  clear hW hB h1 h3 h4 z0 z1 z2 zf
  go_region_held3 (fun w' => w'.cell? ⟨X, 1, none⟩ = some (.int .u64 t) ∧ w'.cell? ⟨X, 3, none⟩ = some (.int .i64 h) ∧ w'.cell? ⟨X, 4, none⟩ = some (.int .i64 n)) (go_keep)
    ((go_at_call 48
      refine (HA.out _).mono ?_
      rintro e w1 ⟨rfl, hb1⟩
      have x1 := (hb1.cell (p := ⟨X, 1, none⟩) hlW).trans y1
      have x3 := (hb1.cell (p := ⟨X, 3, none⟩) hlW).trans y3
      have x4 := (hb1.cell (p := ⟨X, 4, none⟩) hlW).trans y4
      have z0 := (hb1.cell (p := ⟨w.heap.size, 0, none⟩) hwl).trans HZ.out.1
      have z1 := (hb1.cell (p := ⟨w.heap.size, 1, none⟩) hwl).trans HZ.out.2.1
      have z2 := (hb1.cell (p := ⟨w.heap.size, 2, none⟩) hwl).trans HZ.out.2.2.1
      have zf0 := (hb1.frozen (p := ⟨w.heap.size, 0, none⟩) hwl).trans (HZ.out.2.2.2 0)
      have zf1 := (hb1.frozen (p := ⟨w.heap.size, 1, none⟩) hwl).trans (HZ.out.2.2.2 1)
      have zf2 := (hb1.frozen (p := ⟨w.heap.size, 2, none⟩) hwl).trans (HZ.out.2.2.2 2)
      have zl : w.heap.size < w1.heap.size := Nat.lt_of_lt_of_le hwl hb1.size
      have HB1 := Lib.hid (HB.out.drew.trans (hb1.mono (by simp; omega)))
      clear hb1))
  all_goals
    go_wp2_with fail
    exact bodyPost_ret (v := .agg #[.int .i64 v.b, .int .i64 v.q, .int .i64 v.s]) (by simp [results, Tryz.results113, go_sem, *]) rfl ⟨rfl, ((HB1.out.setCell (p := ⟨w.heap.size, 0, none⟩) (Nat.le_refl _) _).setCell (p := ⟨w.heap.size, 1, none⟩) (Nat.le_refl _) _).setCell (p := ⟨w.heap.size, 2, none⟩) (Nat.le_refl _) _⟩
end
end
section
open Go.RowKit
set_option linter.unusedVariables false

theorem wp_scope_once {P : Program} {a : Act} {w : World} {Q : Exit → Act → World → Prop} {c rest : Code} (l : Nat) (hf : findLabel c l = some rest)
    (first : ∀ J : Act → World → Prop, (∀ a w, rest.wp P (Exit.noGoto Q) a w → J a w) → c.wp P (Exit.jump l J Q) a w) : (Code.scope c).wp P Q a w := by
  refine wp_scope_jumps l (fun a w => rest.wp P (Exit.noGoto Q) a w) (fun _ _ => 0) hf (first _ fun _ _ h => h) fun a w hJ => ?_
  refine wp_mono hJ fun e a w h => ?_
  cases e with
  | goto l => exact absurd h id
  | _ => exact h
end
section
open Go.RowKit Go.Shelf
set_option linter.unusedVariables false

theorem evStep_1 (s : AW) (z : Evm) (h : z.ln = 1) : evStep (s, z) = (awStore 5 1 s, ⟨2, z.t, z.h, z.n, z.ref, z.mw, z.o⟩) := by
  unfold evStep
  dsimp only
  rw [if_pos h]
theorem evStep_2 (s : AW) (z : Evm) (h : z.ln = 2) : evStep (s, z) = (awLoad 2 s, ⟨3, s.M 2, z.h, z.n, z.ref, z.mw, z.o⟩) := by
  unfold evStep
  dsimp only
  rw [if_neg (by omega), if_pos h]
theorem evStep_3 (s : AW) (z : Evm) (h : z.ln = 3) : evStep (s, z) = (awLoad 4 s, ⟨4, z.t, s.M 4 % plSpots z.t, 0, z.ref, z.mw, z.o⟩) := by
  unfold evStep
  dsimp only
  rw [if_neg (by omega), if_neg (by omega), if_pos h]
theorem evStep_4 (s : AW) (z : Evm) (h : z.ln = 4) : evStep (s, z) = (awLoad (evSpot z).item s, if evRef s z = 0 then evNext ⟨4, z.t, z.h, z.n, 0, z.mw, z.o⟩ else ⟨5, z.t, z.h, z.n, evRef s z, z.mw, z.o⟩) := by
  unfold evStep
  dsimp only
  rw [if_neg (by omega), if_neg (by omega), if_neg (by omega), if_pos h]
theorem evStep_5 (s : AW) (z : Evm) (h : z.ln = 5) : evStep (s, z) = (awLoad (plRef z.ref) s, ⟨if s.M (plRef z.ref) % 2 = 0 then 7 else 6, z.t, z.h, z.n, z.ref, s.M (plRef z.ref), ⟨0, 0⟩⟩) := by
  unfold evStep
  dsimp only
  rw [if_neg (by omega), if_neg (by omega), if_neg (by omega), if_neg (by omega), if_pos h]
theorem evStep_6 (s : AW) (z : Evm) (h : z.ln = 6) : evStep (s, z) = (awStore (plRef z.ref) ((z.mw + 1) % 18446744073709551616) s, evNext z) := by
  unfold evStep
  dsimp only
  rw [if_neg (by omega), if_neg (by omega), if_neg (by omega), if_neg (by omega), if_neg (by omega), if_pos h]
theorem evStep_7 (s : AW) (z : Evm) (h : z.ln = 7) : evStep (s, z) = (awAdd (evSpot z).ver 1 s, ⟨8, z.t, z.h, z.n, z.ref, z.mw, z.o⟩) := by
  unfold evStep
  dsimp only
  rw [if_neg (by omega), if_neg (by omega), if_neg (by omega), if_neg (by omega), if_neg (by omega), if_neg (by omega), if_pos h]
theorem evStep_8 (s : AW) (z : Evm) (h : z.ln = 8) : evStep (s, z) = (if z.o.ln = 1 then awNote 1 z.ref (evSpot z).b (evSpot z).q (evSpot z).s 0 (outStep (evSpot z) s z.o).1 else (outStep (evSpot z) s z.o).1, ⟨if z.o.ln = 2 then 9 else 8, z.t, z.h, z.n, z.ref, z.mw, (outStep (evSpot z) s z.o).2⟩) := by
  unfold evStep
  dsimp only
  rw [if_neg (by omega), if_neg (by omega), if_neg (by omega), if_neg (by omega), if_neg (by omega), if_neg (by omega), if_neg (by omega), if_pos h]
theorem evStep_9 (s : AW) (z : Evm) (h : z.ln = 9) : evStep (s, z) = (awAdd (evSpot z).ver 1 s, ⟨10, z.t, z.h, z.n, z.ref, z.mw, z.o⟩) := by
  unfold evStep
  dsimp only
  rw [if_neg (by omega), if_neg (by omega), if_neg (by omega), if_neg (by omega), if_neg (by omega), if_neg (by omega), if_neg (by omega), if_neg (by omega), if_pos h]
theorem evStep_10 (s : AW) (z : Evm) (h : z.ln = 10) : evStep (s, z) = (awAdd 6 18446744073709551615 s, ⟨11, z.t, z.h, z.n, z.ref, z.mw, z.o⟩) := by
  unfold evStep
  dsimp only
  rw [if_neg (by omega), if_neg (by omega), if_neg (by omega), if_neg (by omega), if_neg (by omega), if_neg (by omega), if_neg (by omega), if_neg (by omega), if_neg (by omega), if_pos h]
theorem evStep_11 (s : AW) (z : Evm) (h : z.ln = 11) : evStep (s, z) = (if z.ref = 0 then awNote 8 0 0 0 0 z.n (awStore 4 z.h s) else awNote 8 z.ref (evSpot z).b (evSpot z).q (evSpot z).s (z.n + 1) (awStore 4 ((z.h + z.n + 1) % plSpots z.t) s), ⟨12, z.t, z.h, z.n, z.ref, z.mw, z.o⟩) := by
  unfold evStep
  dsimp only
  rw [if_neg (by omega), if_neg (by omega), if_neg (by omega), if_neg (by omega), if_neg (by omega), if_neg (by omega), if_neg (by omega), if_neg (by omega), if_neg (by omega), if_neg (by omega), if_pos h]
theorem evStep_12 (s : AW) (z : Evm) (h : z.ln = 12) : evStep (s, z) = (awStore 5 0 s, ⟨0, z.t, z.h, z.n, z.ref, z.mw, z.o⟩) := by
  unfold evStep
  dsimp only
  rw [if_neg (by omega), if_neg (by omega), if_neg (by omega), if_neg (by omega), if_neg (by omega), if_neg (by omega), if_neg (by omega), if_neg (by omega), if_neg (by omega), if_neg (by omega), if_neg (by omega), if_pos h]
section
variable {X : Nat} {w : World} {O : Om} {B : Wb} {f : Cf} {s : AW} {k : Nat}
set_option maxHeartbeats 4000000 in
set_option maxRecDepth 100000 in
theorem c_Ev1 {z : Evm} (hP : PW w O B f s) (hX : EvAt w O k X z) (hz : EvOk z) (hl : z.ln = 1) (hk : 10 ≤ k) (hhi : ∀ j, O j ≠ 0 → j < w.heap.size) (n0 : 0 ≤ s.n) (n1 : s.n ≤ 4611686018427387904) :
    Calls Tryz.prog 57 #[.pointer (some ⟨X, 0, none⟩), .pointer (some ⟨B.p, 0, none⟩)] w (EPost w O B f k X (evStep (s, z))) := by
  rw [evStep_1 s z hl]
  obtain ⟨ln, t, h, n, ref, mk, o⟩ := z
  dsimp only at hl
  subst hl
  obtain ⟨all, a, ou, l, hx, hall, -, -, -⟩ := hX.ex
  dsimp only at hall ⊢
  have HM : Hid (Me k (k + 5) w O w O B f s k X (evCs ⟨1, t, h, n, ref, mk, o⟩ all a ou l)) := Lib.hid (Me.start hhi hP hx)
  have x0 := hx.c 0 _ rfl
  have p0 := hP.wo.c0
  dsimp only at x0
  unfold EPost
  have HL := Lib.hid (c_StoreP 5 1 hP hhi (by decide) (by decide) (by decide) (by decide) n0 n1)
  clear hP hX hx hhi hz
  go_enter Tryz.func57, Tryz.ntmps57
  go_wp2_with fail
  go_step3
  go_wp2_with fail
  refine (c_EvOver x0).mono ?_
  rintro e w' ⟨rfl, rfl⟩
  go_wp2_with fail
  refine HL.out.mono ?_
  rintro e w2 ⟨rfl, G2, e2, P2⟩
  have M2 := Lib.hid (HM.out.world hk e2 P2)
  have q0 := M2.out.t.c 0 _ rfl
  have f0 := M2.out.t.f 0
  have M3 := Lib.hid (M2.out.set hk (Nat.le_refl _) (by omega) 0 (.int .i64 2) (by simp [evCs]))

  clear HL e2 P2 x0 p0
  go_wp2_with fail
  go_ret
  exact ⟨rfl, _, M3.out.e, M3.out.p, EvAt.simple all a ou l M3.out.t (fun h => absurd (show (3 : Int) ≤ 2 from h) (by decide)) (fun h => absurd (show (2 : Int) = 7 from h) (by decide)) (fun h => absurd (show (2 : Int) = 8 from h) (by decide)) (fun h => absurd (show (2 : Int) = 9 from h) (by decide))⟩
set_option maxHeartbeats 4000000 in
set_option maxRecDepth 100000 in
theorem c_Ev2 {z : Evm} (hP : PW w O B f s) (hX : EvAt w O k X z) (hz : EvOk z) (hl : z.ln = 2) (hk : 10 ≤ k) (hhi : ∀ j, O j ≠ 0 → j < w.heap.size) (n0 : 0 ≤ s.n) (n1 : s.n ≤ 4611686018427387904) :
    Calls Tryz.prog 57 #[.pointer (some ⟨X, 0, none⟩), .pointer (some ⟨B.p, 0, none⟩)] w (EPost w O B f k X (evStep (s, z))) := by
  rw [evStep_2 s z hl]
  obtain ⟨ln, t, h, n, ref, mk, o⟩ := z
  dsimp only at hl
  subst hl
  obtain ⟨all, a, ou, l, hx, hall, -, -, -⟩ := hX.ex
  dsimp only at hall ⊢
  have HM : Hid (Me k (k + 5) w O w O B f s k X (evCs ⟨2, t, h, n, ref, mk, o⟩ all a ou l)) := Lib.hid (Me.start hhi hP hx)
  have x0 := hx.c 0 _ rfl
  have p0 := hP.wo.c0
  dsimp only at x0
  unfold EPost
  have HL := Lib.hid (c_LoadP 2 hP hhi (by decide) (by decide) n0 n1)
  have hbd := hP.bd 2
  have HS := Lib.hid (fun W => c_Spots (s.M 2) W hbd.1 hbd.2)
  clear hP hX hx hhi hz
  go_enter Tryz.func57, Tryz.ntmps57
  go_wp2_with fail
  go_step3
  go_wp2_with fail
  refine (c_EvOver x0).mono ?_
  rintro e w' ⟨rfl, rfl⟩
  go_wp2_with fail
  refine HL.out.mono ?_
  rintro e w2 ⟨rfl, G2, e2, P2⟩
  have M2 := Lib.hid (HM.out.world hk e2 P2)
  have q1 := M2.out.t.c 1 _ rfl
  have f1 := M2.out.t.f 1
  have M3 := Lib.hid (M2.out.set hk (Nat.le_refl _) (by omega) 1 (.int .u64 (s.M 2)) (by simp [evCs]))
  obtain ⟨w3, hw3⟩ : ∃ w3, w3 = w2.setCell ⟨X, 1, none⟩ (.int .u64 (s.M 2)) := ⟨_, rfl⟩
  clear HL e2 P2 x0 p0
  go_wp2_with fail
  rw [← hw3] at M3 ⊢
  clear q1 f1 hw3
  have q1 := M3.out.t.c 1 _ rfl
  go_wp2_with fail
  refine (HS.out _).mono ?_
  rintro e w' ⟨rfl, rfl⟩
  have q2 := M3.out.t.c 2 _ rfl
  have f2 := M3.out.t.f 2
  have M4 := Lib.hid (M3.out.set hk (Nat.le_refl _) (by omega) 2 (.int .i64 (plSpots (s.M 2))) (by simp [evCs]))
  have q0 := M4.out.t.c 0 _ rfl
  have f0 := M4.out.t.f 0
  have M5 := Lib.hid (M4.out.set hk (Nat.le_refl _) (by omega) 0 (.int .i64 3) (by simp [evCs]))

  go_wp2_with fail
  go_ret
  exact ⟨rfl, _, M5.out.e, M5.out.p, EvAt.simple (plSpots (s.M 2)) a ou l M5.out.t (fun _ => rfl) (fun h => absurd (show (3 : Int) = 7 from h) (by decide)) (fun h => absurd (show (3 : Int) = 8 from h) (by decide)) (fun h => absurd (show (3 : Int) = 9 from h) (by decide))⟩
set_option maxHeartbeats 4000000 in
set_option maxRecDepth 100000 in
theorem c_Ev3 {z : Evm} (hP : PW w O B f s) (hX : EvAt w O k X z) (hz : EvOk z) (hl : z.ln = 3) (hk : 10 ≤ k) (hhi : ∀ j, O j ≠ 0 → j < w.heap.size) (n0 : 0 ≤ s.n) (n1 : s.n ≤ 4611686018427387904) :
    Calls Tryz.prog 57 #[.pointer (some ⟨X, 0, none⟩), .pointer (some ⟨B.p, 0, none⟩)] w (EPost w O B f k X (evStep (s, z))) := by
  rw [evStep_3 s z hl]
  obtain ⟨ln, t, h, n, ref, mk, o⟩ := z
  dsimp only at hl
  subst hl
  obtain ⟨all, a, ou, l, hx, hall, -, -, -⟩ := hX.ex
  dsimp only at hall ⊢
  have HM : Hid (Me k (k + 5) w O w O B f s k X (evCs ⟨3, t, h, n, ref, mk, o⟩ all a ou l)) := Lib.hid (Me.start hhi hP hx)
  have x0 := hx.c 0 _ rfl
  have p0 := hP.wo.c0
  dsimp only at x0
  unfold EPost
  have HL := Lib.hid (c_LoadP 4 (w := w.drew) (hP.below hhi (drew_below w)) (fun j hj => hhi j hj) (by decide) (by decide) n0 n1)
  have hbd := hP.bd 4
  have hal := hall (by decide)
  have hsp := plSpots_bd t
  rw [← hal] at hsp ⊢
  have x2 := hx.c 2 _ rfl
  have dz : (all == 0) = false := by rw [beq_eq_false_iff_ne]; omega
  have dz2 : ¬ all = 0 := by omega
  have dz3 : 0 < all := by omega
  have wa : IntKind.u64.wrap all = all := by rw [IntKind.wrap_u64]; omega
  have wb : wrap64 (s.M 4 % all) = s.M 4 % all := by
    have := Int.emod_nonneg (s.M 4) (show all ≠ 0 by omega)
    have := Int.emod_lt_of_pos (s.M 4) (show 0 < all by omega)
    unfold wrap64; omega
  have wc : IntKind.i64.wrap (s.M 4 % all) = s.M 4 % all := by
    have := Int.emod_nonneg (s.M 4) (show all ≠ 0 by omega)
    have := Int.emod_lt_of_pos (s.M 4) (show 0 < all by omega)
    simp [IntKind.wrap, IntKind.bits, IntKind.signed]; omega
  have HAL := Lib.hid hal
  have h40 := hbd.1
  have htm : (s.M 4).tmod all = s.M 4 % all := Int.tmod_eq_emod_of_nonneg h40
  clear hP hX hx hhi hz hall hal
  go_enter Tryz.func57, Tryz.ntmps57
  go_wp2_with fail
  go_step3
  go_wp2_with fail
  refine (c_EvOver x0).mono ?_
  rintro e w' ⟨rfl, rfl⟩
  go_wp2_with fail
  go_region_held3 (fun w' => w'.cell? ⟨X, 2, none⟩ = some (.int .i64 all)) (go_keep)
    ((go_at_call 115
      refine HL.out.mono ?_
      rintro e w2 ⟨rfl, G2, e2, P2⟩
      have M2 := Lib.hid (HM.out.drew.world hk e2 P2)
      have q2 := M2.out.t.c 2 _ rfl
      have q3 := M2.out.t.c 3 _ rfl
      have q4 := M2.out.t.c 4 _ rfl
      have f3 := M2.out.t.f 3
      have f4 := M2.out.t.f 4
      have M3 := Lib.hid (M2.out.set hk (Nat.le_refl _) (by omega) 3 (.int .i64 (s.M 4 % all)) (by simp [evCs]))
      have M4 := Lib.hid (M3.out.set hk (Nat.le_refl _) (by omega) 4 (.int .i64 0) (by simp [evCs]))
      have q23 := M3.out.t.c 2 _ rfl
      have q24 := M4.out.t.c 2 _ rfl
      clear e2 P2))
  all_goals
    have q0 := M4.out.t.c 0 _ rfl
    have f0 := M4.out.t.f 0
    have M5 := Lib.hid (M4.out.set hk (Nat.le_refl _) (by omega) 0 (.int .i64 4) (by simp [evCs]))

    go_wp2_with fail
    go_ret
    exact ⟨rfl, _, M5.out.e, M5.out.p, EvAt.simple all a ou l M5.out.t (fun _ => HAL.out) (fun h => absurd (show (4 : Int) = 7 from h) (by decide)) (fun h => absurd (show (4 : Int) = 8 from h) (by decide)) (fun h => absurd (show (4 : Int) = 9 from h) (by decide))⟩
set_option maxHeartbeats 4000000 in
set_option maxRecDepth 100000 in
theorem c_Ev4 {z : Evm} (hP : PW w O B f s) (hX : EvAt w O k X z) (hz : EvOk z) (hl : z.ln = 4) (hk : 10 ≤ k) (hhi : ∀ j, O j ≠ 0 → j < w.heap.size) (n0 : 0 ≤ s.n) (n1 : s.n ≤ 4611686018427387904) :
    Calls Tryz.prog 57 #[.pointer (some ⟨X, 0, none⟩), .pointer (some ⟨B.p, 0, none⟩)] w (EPost w O B f k X (evStep (s, z))) := by
  rw [evStep_4 s z hl]
  obtain ⟨ln, t, h, n, ref, mk, o⟩ := z
  dsimp only at hl
  subst hl
  obtain ⟨all, a, ou, l, hx, hall, -, -, -⟩ := hX.ex
  dsimp only at hall ⊢
  have HM : Hid (Me k (k + 5) w O w O B f s k X (evCs ⟨4, t, h, n, ref, mk, o⟩ all a ou l)) := Lib.hid (Me.start hhi hP hx)
  have x0 := hx.c 0 _ rfl
  have p0 := hP.wo.c0
  dsimp only at x0
  unfold EPost
  obtain ⟨l0, l1, t0, t1, h0, h1, m0, m1, m2, r0, r1, k0, k1, w0, w1, o8⟩ := hz
  dsimp only at t0 t1 h0 h1 m0 m1 m2 r0 r1 k0 k1
  have h1 := h1 (by first | exact .inl (by decide) | exact .inr rfl)
  have hal := hall (by decide)
  have HAL := Lib.hid hal
  have hsp := plSpots_bd t
  rw [← hal] at hsp
  have hw1 : wrap64 (n + 1) = n + 1 := by unfold wrap64; omega
  have hw2 : IntKind.i64.wrap (n + 1) = n + 1 := by simp [IntKind.wrap, IntKind.bits, IntKind.signed]; omega
  have hw3 : wrap64 (2 * all) = 2 * all := by unfold wrap64; omega
  have hw4 : IntKind.i64.wrap (2 * all) = 2 * all := by simp [IntKind.wrap, IntKind.bits, IntKind.signed]; omega
  obtain ⟨v, hv⟩ : ∃ v, v = plAt t (h + n) := ⟨_, rfl⟩
  have hvo : v.ok := by rw [hv]; exact plAt_ok _ _
  have HV := Lib.hid (And.intro hv hvo)
  have HSP := Lib.hid (fun (W : World) (g1 : W.cell? ⟨X, 1, none⟩ = some (.int .u64 t)) (g3 : W.cell? ⟨X, 3, none⟩ = some (.int .i64 h)) (g4 : W.cell? ⟨X, 4, none⟩ = some (.int .i64 n)) => c_EvSpot t h n g1 g3 g4 t0 t1 h0 h1 m0 m1)
  rw [← hv] at HSP

  have hit := hvo.item
  have hq2 := hvo.q2
  have HI := Lib.hid (fun W => c_Item v.b v.q v.s W (by have := hvo.b0; omega) (by have := hvo.b1; omega) (by have := hvo.q0; omega) (by omega) (by have := hvo.s0; omega) (by have := hvo.s1; omega))
  obtain ⟨ia, hia⟩ : ∃ ia, ia = v.item := ⟨_, rfl⟩
  have hia2 : plItem v.b v.q v.s = ia := hia.symm
  rw [hia2] at HI
  rw [← hia] at hit
  have es : (evSpot ⟨4, t, h, n, ref, mk, o⟩).item = ia := by rw [hia, hv]; rfl
  have er : evRef s ⟨4, t, h, n, ref, mk, o⟩ = wrap64 (s.M ia) := by unfold evRef; rw [es]
  rw [es, er]
  obtain ⟨r, hr⟩ : ∃ r, r = wrap64 (s.M ia) := ⟨_, rfl⟩
  rw [← hr]
  have hr1 : wrap64 (s.M ia) = r := hr.symm
  have hr2 : IntKind.i64.wrap (s.M ia) = r := by rw [hr]; unfold wrap64; simp [IntKind.wrap, IntKind.bits, IntKind.signed]; omega
  have hia0 : 0 ≤ ia ∧ ia < 18446744073709551616 := by omega
  have x1 := hx.c 1 _ rfl
  have x3 := hx.c 3 _ rfl
  have x4 := hx.c 4 _ rfl
  dsimp only at x1 x3 x4
  clear hP hX hx hhi hall hal hr hia hia2 es er hit hq2 hvo hv l0 l1 t0 t1 h0 h1 m2 r0 r1 k0 k1 w0 w1 o8 hsp
  go_enter Tryz.func57, Tryz.ntmps57
  go_wp2_with fail
  refine wp_scope_once 0 rfl ?_
  intro J hJ
  have HJ := Lib.hid hJ
  clear hJ
  go_wp2_with fail
  refine (c_EvOver x0).mono ?_
  rintro e w' ⟨rfl, rfl⟩
  go_wp2_with fail
  refine (HSP.out _ x1 x3 x4).mono ?_
  rintro e w1 ⟨rfl, hb1⟩
  have M1 := Lib.hid (HM.out.below hb1)
  clear hb1 x1 x3 x4
  go_wp2_with fail
  refine (HI.out _).mono ?_
  rintro e w2 ⟨rfl, hb2⟩
  have M2 := Lib.hid (M1.out.below hb2)
  clear hb2
  go_wp2_with fail
  refine (c_LoadP ia M2.out.p M2.out.e.hi hia0.1 hia0.2 n0 n1).mono ?_
  rintro e w3 ⟨rfl, G3, e3, P3⟩
  have M3 := Lib.hid (M2.out.world hk e3 P3)
  have q5 := M3.out.t.c 5 _ rfl
  have f5 := M3.out.t.f 5
  have M4 := Lib.hid (M3.out.set hk (Nat.le_refl _) (by omega) 5 (.int .i64 r) (by simp [evCs]))
  clear e3 P3 x0 p0
  go_upto_region 15 with fail
  obtain ⟨w4, hw4'⟩ : ∃ w4, w4 = w3.setCell ⟨X, 5, none⟩ (.int .i64 r) := ⟨_, rfl⟩
  rw [← hw4'] at M4 ⊢
  clear q5 f5 hw4' hr1 hr2
  have q5 := M4.out.t.c 5 _ rfl
  by_cases hr0 : r = 0
  · subst hr0
    go_wp2_with fail
    go_step3
    refine ⟨rfl, HJ.out _ _ ?_⟩
    clear HJ
    have q0 := M4.out.t.c 0 _ rfl
    have f0 := M4.out.t.f 0
    have A1 := Lib.hid (M4.out.set hk (Nat.le_refl _) (by omega) 0 (.int .i64 4) (by simp [evCs]))
    have q4 := A1.out.t.c 4 _ rfl
    have f4 := A1.out.t.f 4
    have A2 := Lib.hid (A1.out.set hk (Nat.le_refl _) (by omega) 4 (.int .i64 (n + 1)) (by simp [evCs]))
    go_upto_region 28 with fail
    obtain ⟨w8, hw8⟩ : ∃ w8, w8 = (w4.setCell ⟨X, 0, none⟩ (.int .i64 4)).setCell ⟨X, 4, none⟩ (.int .i64 (n + 1)) := ⟨_, rfl⟩
    rw [← hw8] at A2 ⊢
    clear q0 f0 q4 f4 hw8 A1
    have r4 := A2.out.t.c 4 _ rfl
    have r2 := A2.out.t.c 2 _ rfl
    by_cases he : n + 1 = 2 * all
    · have de : (n + 1 == 2 * all) = true := by simp [he]
      have HE := Lib.hid he
      clear he
      go_quiet (fail)
      have A3 := Lib.hid (A2.out.below (w1 := w8.drewN nq) ⟨rfl, rfl, rfl, Nat.le_refl _, fun _ _ => rfl⟩)
      obtain ⟨w9, hw9⟩ : ∃ w9, w9 = w8.drewN nq := ⟨_, rfl⟩
      rw [← hw9] at A3 ⊢
      clear hw9 r4 r2 A2
      have q5 := A3.out.t.c 5 _ rfl
      have f5 := A3.out.t.f 5
      have A4 := Lib.hid (A3.out.set hk (Nat.le_refl _) (by omega) 5 (.int .i64 0) (by simp [evCs]))
      have q0 := A3.out.t.c 0 _ rfl
      have f0 := A3.out.t.f 0
      have A5 := Lib.hid (A4.out.set hk (Nat.le_refl _) (by omega) 0 (.int .i64 11) (by simp [evCs]))
      go_wp2_with fail
      go_ret
      refine ⟨?_, _, A5.out.e, A5.out.p, ?_⟩
      · try rw [if_pos rfl]
        unfold evNext; rw [if_pos (by rw [← HAL.out]; exact HE.out)]; rfl
      · try rw [if_pos rfl]
        unfold evNext
        rw [if_pos (by rw [← HAL.out]; exact HE.out)]
        exact EvAt.simple all a ou l A5.out.t (fun _ => HAL.out) (fun h => absurd (show (11 : Int) = 7 from h) (by decide)) (fun h => absurd (show (11 : Int) = 8 from h) (by decide)) (fun h => absurd (show (11 : Int) = 9 from h) (by decide))
    · have de : (n + 1 == 2 * all) = false := by simp [he]
      have HE := Lib.hid he
      clear he
      go_quiet (fail)
      have A3 := Lib.hid (A2.out.below (w1 := w8.drewN nq) ⟨rfl, rfl, rfl, Nat.le_refl _, fun _ _ => rfl⟩)
      obtain ⟨w9, hw9⟩ : ∃ w9, w9 = w8.drewN nq := ⟨_, rfl⟩
      rw [← hw9] at A3 ⊢
      clear hw9 r4 r2 A2
      go_wp2_with fail
      go_ret
      refine ⟨?_, _, A3.out.e, A3.out.p, ?_⟩
      · try rw [if_pos rfl]
        unfold evNext; rw [if_neg (by rw [← HAL.out]; exact HE.out)]; rfl
      · try rw [if_pos rfl]
        unfold evNext
        rw [if_neg (by rw [← HAL.out]; exact HE.out)]
        exact EvAt.simple all a ou l A3.out.t (fun _ => HAL.out) (fun h => absurd (show (4 : Int) = 7 from h) (by decide)) (fun h => absurd (show (4 : Int) = 8 from h) (by decide)) (fun h => absurd (show (4 : Int) = 9 from h) (by decide))

  · have dr : (r == 0) = false := by simp [hr0]
    have HR0 := Lib.hid hr0
    clear hr0

    have q0 := M4.out.t.c 0 _ rfl
    have f0 := M4.out.t.f 0
    have M5 := Lib.hid (M4.out.set hk (Nat.le_refl _) (by omega) 0 (.int .i64 5) (by simp [evCs]))

    go_wp2_with fail
    go_ret
    refine ⟨by rw [if_neg HR0.out]; rfl, _, M5.out.e, M5.out.p, ?_⟩
    rw [if_neg HR0.out]
    exact EvAt.simple all a ou l M5.out.t (fun _ => HAL.out) (fun h => absurd (show (5 : Int) = 7 from h) (by decide)) (fun h => absurd (show (5 : Int) = 8 from h) (by decide)) (fun h => absurd (show (5 : Int) = 9 from h) (by decide))
set_option maxHeartbeats 4000000 in
set_option maxRecDepth 100000 in
theorem c_Ev6 {z : Evm} (hP : PW w O B f s) (hX : EvAt w O k X z) (hz : EvOk z) (hl : z.ln = 6) (hk : 10 ≤ k) (hhi : ∀ j, O j ≠ 0 → j < w.heap.size) (n0 : 0 ≤ s.n) (n1 : s.n ≤ 4611686018427387904) :
    Calls Tryz.prog 57 #[.pointer (some ⟨X, 0, none⟩), .pointer (some ⟨B.p, 0, none⟩)] w (EPost w O B f k X (evStep (s, z))) := by
  rw [evStep_6 s z hl]
  obtain ⟨ln, t, h, n, ref, mk, o⟩ := z
  dsimp only at hl
  subst hl
  obtain ⟨all, a, ou, l, hx, hall, -, -, -⟩ := hX.ex
  dsimp only at hall ⊢
  have HM : Hid (Me k (k + 5) w O w O B f s k X (evCs ⟨6, t, h, n, ref, mk, o⟩ all a ou l)) := Lib.hid (Me.start hhi hP hx)
  have x0 := hx.c 0 _ rfl
  have p0 := hP.wo.c0
  dsimp only at x0
  unfold EPost
  obtain ⟨l0, l1, t0, t1, h0, h1, m0, m1, m2, r0, r1, k0, k1, w0, w1, o8⟩ := hz
  dsimp only at t0 t1 h0 h1 m0 m1 m2 r0 r1 k0 k1
  have h1 := h1 (by first | exact .inl (by decide) | exact .inr rfl)
  have hal := hall (by decide)
  have HAL := Lib.hid hal
  have hsp := plSpots_bd t
  rw [← hal] at hsp
  have hw1 : wrap64 (n + 1) = n + 1 := by unfold wrap64; omega
  have hw2 : IntKind.i64.wrap (n + 1) = n + 1 := by simp [IntKind.wrap, IntKind.bits, IntKind.signed]; omega
  have hw3 : wrap64 (2 * all) = 2 * all := by unfold wrap64; omega
  have hw4 : IntKind.i64.wrap (2 * all) = 2 * all := by simp [IntKind.wrap, IntKind.bits, IntKind.signed]; omega
  obtain ⟨v, hv⟩ : ∃ v, v = plAt t (h + n) := ⟨_, rfl⟩
  have hvo : v.ok := by rw [hv]; exact plAt_ok _ _
  have HV := Lib.hid (And.intro hv hvo)
  have HSP := Lib.hid (fun (W : World) (g1 : W.cell? ⟨X, 1, none⟩ = some (.int .u64 t)) (g3 : W.cell? ⟨X, 3, none⟩ = some (.int .i64 h)) (g4 : W.cell? ⟨X, 4, none⟩ = some (.int .i64 n)) => c_EvSpot t h n g1 g3 g4 t0 t1 h0 h1 m0 m1)
  rw [← hv] at HSP

  have hrf : 0 ≤ plRef ref ∧ plRef ref < 18446744073709551616 := by unfold plRef; split <;> omega
  have hmb : 0 ≤ (mk + 1) % 18446744073709551616 ∧ (mk + 1) % 18446744073709551616 < 18446744073709551616 := by omega
  have HR := Lib.hid (fun W => c_Ref ref W r0 r1)
  obtain ⟨ra, hra⟩ : ∃ ra, ra = plRef ref := ⟨_, rfl⟩
  rw [← hra] at hrf HR ⊢
  obtain ⟨nm, hnm⟩ : ∃ nm, nm = (mk + 1) % 18446744073709551616 := ⟨_, rfl⟩
  rw [← hnm] at hmb ⊢
  have hnm2 : IntKind.u64.wrap (mk + 1) = nm := by rw [IntKind.wrap_u64]; exact hnm.symm
  have x5 := hx.c 5 _ rfl
  have x6 := hx.c 6 _ rfl
  dsimp only at x5 x6
  clear hP hX hx hhi hall hal hra hnm hvo hv l0 l1 t0 t1 h0 h1 m2 r0 r1 k0 k1 w0 w1 o8 hsp HSP
  go_enter Tryz.func57, Tryz.ntmps57
  go_wp2_with fail
  refine wp_scope_once 0 rfl ?_
  intro J hJ
  have HJ := Lib.hid hJ
  clear hJ
  go_wp2_with fail
  refine (c_EvOver x0).mono ?_
  rintro e w' ⟨rfl, rfl⟩
  go_wp2_with fail
  go_region_held3 (fun w' => w'.cell? ⟨X, 5, none⟩ = some (.int .i64 ref) ∧ w'.cell? ⟨X, 6, none⟩ = some (.int .u64 mk)) (go_keep)
    ((first
      | (go_at_call 54
         refine (HR.out _).mono ?_
         rintro e w1 ⟨rfl, rfl⟩)
      | (go_at_call 24
         refine (c_StoreP ra nm (w := w.drew) HM.out.drew.p HM.out.drew.e.hi hrf.1 hrf.2 hmb.1 hmb.2 n0 n1).mono ?_
         rintro e w2 ⟨rfl, G2, e2, P2⟩
         have M2 := Lib.hid (HM.out.drew.world hk e2 P2)
         have q5 := M2.out.t.c 5 _ rfl
         have q6 := M2.out.t.c 6 _ rfl
         clear e2 P2)))
  all_goals
    clear x0 x5 x6 p0 q5 q6
    go_wp2_with fail
    go_step3
    refine ⟨rfl, HJ.out _ _ ?_⟩
    clear HJ
    have q0 := M2.out.t.c 0 _ rfl
    have f0 := M2.out.t.f 0
    have A1 := Lib.hid (M2.out.set hk (Nat.le_refl _) (by omega) 0 (.int .i64 4) (by simp [evCs]))
    have q4 := A1.out.t.c 4 _ rfl
    have f4 := A1.out.t.f 4
    have A2 := Lib.hid (A1.out.set hk (Nat.le_refl _) (by omega) 4 (.int .i64 (n + 1)) (by simp [evCs]))
    go_upto_region 28 with fail
    obtain ⟨w8, hw8⟩ : ∃ w8, w8 = (w2.setCell ⟨X, 0, none⟩ (.int .i64 4)).setCell ⟨X, 4, none⟩ (.int .i64 (n + 1)) := ⟨_, rfl⟩
    rw [← hw8] at A2 ⊢
    clear q0 f0 q4 f4 hw8 A1
    have r4 := A2.out.t.c 4 _ rfl
    have r2 := A2.out.t.c 2 _ rfl
    by_cases he : n + 1 = 2 * all
    · have de : (n + 1 == 2 * all) = true := by simp [he]
      have HE := Lib.hid he
      clear he
      go_quiet (fail)
      have A3 := Lib.hid (A2.out.below (w1 := w8.drewN nq) ⟨rfl, rfl, rfl, Nat.le_refl _, fun _ _ => rfl⟩)
      obtain ⟨w9, hw9⟩ : ∃ w9, w9 = w8.drewN nq := ⟨_, rfl⟩
      rw [← hw9] at A3 ⊢
      clear hw9 r4 r2 A2
      have q5 := A3.out.t.c 5 _ rfl
      have f5 := A3.out.t.f 5
      have A4 := Lib.hid (A3.out.set hk (Nat.le_refl _) (by omega) 5 (.int .i64 0) (by simp [evCs]))
      have q0 := A3.out.t.c 0 _ rfl
      have f0 := A3.out.t.f 0
      have A5 := Lib.hid (A4.out.set hk (Nat.le_refl _) (by omega) 0 (.int .i64 11) (by simp [evCs]))
      go_wp2_with fail
      go_ret
      refine ⟨?_, _, A5.out.e, A5.out.p, ?_⟩
      · try rw [if_pos rfl]
        unfold evNext; rw [if_pos (by rw [← HAL.out]; exact HE.out)]; rfl
      · try rw [if_pos rfl]
        unfold evNext
        rw [if_pos (by rw [← HAL.out]; exact HE.out)]
        exact EvAt.simple all a ou l A5.out.t (fun _ => HAL.out) (fun h => absurd (show (11 : Int) = 7 from h) (by decide)) (fun h => absurd (show (11 : Int) = 8 from h) (by decide)) (fun h => absurd (show (11 : Int) = 9 from h) (by decide))
    · have de : (n + 1 == 2 * all) = false := by simp [he]
      have HE := Lib.hid he
      clear he
      go_quiet (fail)
      have A3 := Lib.hid (A2.out.below (w1 := w8.drewN nq) ⟨rfl, rfl, rfl, Nat.le_refl _, fun _ _ => rfl⟩)
      obtain ⟨w9, hw9⟩ : ∃ w9, w9 = w8.drewN nq := ⟨_, rfl⟩
      rw [← hw9] at A3 ⊢
      clear hw9 r4 r2 A2
      go_wp2_with fail
      go_ret
      refine ⟨?_, _, A3.out.e, A3.out.p, ?_⟩
      · try rw [if_pos rfl]
        unfold evNext; rw [if_neg (by rw [← HAL.out]; exact HE.out)]; rfl
      · try rw [if_pos rfl]
        unfold evNext
        rw [if_neg (by rw [← HAL.out]; exact HE.out)]
        exact EvAt.simple all a ou l A3.out.t (fun _ => HAL.out) (fun h => absurd (show (4 : Int) = 7 from h) (by decide)) (fun h => absurd (show (4 : Int) = 8 from h) (by decide)) (fun h => absurd (show (4 : Int) = 9 from h) (by decide))
end
end
section
open Go.RowKit Go.Shelf
set_option linter.unusedVariables false

@[go_sem] theorem fld_spot0 (a b c : Value) (w : World) : (Instr.field 56 (.agg #[a, b, c]) 0).run Tryz.prog w = .ok (.agg #[a, b]) w := by kernel_rfl
section
variable {X : Nat} {w : World} {O : Om} {B : Wb} {f : Cf} {s : AW} {k : Nat}
set_option maxHeartbeats 4000000 in
set_option maxRecDepth 100000 in
theorem c_Ev5 {z : Evm} (hP : PW w O B f s) (hX : EvAt w O k X z) (hz : EvOk z) (hl : z.ln = 5) (hk : 10 ≤ k) (hhi : ∀ j, O j ≠ 0 → j < w.heap.size) (n0 : 0 ≤ s.n) (n1 : s.n ≤ 4611686018427387904) :
    Calls Tryz.prog 57 #[.pointer (some ⟨X, 0, none⟩), .pointer (some ⟨B.p, 0, none⟩)] w (EPost w O B f k X (evStep (s, z))) := by
  rw [evStep_5 s z hl]
  obtain ⟨ln, t, h, n, ref, mk, o⟩ := z
  dsimp only at hl
  subst hl
  obtain ⟨all, a, ou, l, hx, hall, -, -, -⟩ := hX.ex
  dsimp only at hall ⊢
  have HM : Hid (Me k (k + 5) w O w O B f s k X (evCs ⟨5, t, h, n, ref, mk, o⟩ all a ou l)) := Lib.hid (Me.start hhi hP hx)
  have x0 := hx.c 0 _ rfl
  have p0 := hP.wo.c0
  dsimp only at x0
  unfold EPost
  obtain ⟨l0, l1, t0, t1, h0, h1, m0, m1, m2, r0, r1, k0, k1, w0, w1, o8⟩ := hz
  dsimp only at t0 t1 h0 h1 m0 m1 m2 r0 r1 k0 k1
  have h1 := h1 (by first | exact .inl (by decide) | exact .inr rfl)
  have hal := hall (by decide)
  have HAL := Lib.hid hal
  have hsp := plSpots_bd t
  rw [← hal] at hsp
  have hw1 : wrap64 (n + 1) = n + 1 := by unfold wrap64; omega
  have hw2 : IntKind.i64.wrap (n + 1) = n + 1 := by simp [IntKind.wrap, IntKind.bits, IntKind.signed]; omega
  have hw3 : wrap64 (2 * all) = 2 * all := by unfold wrap64; omega
  have hw4 : IntKind.i64.wrap (2 * all) = 2 * all := by simp [IntKind.wrap, IntKind.bits, IntKind.signed]; omega
  obtain ⟨v, hv⟩ : ∃ v, v = plAt t (h + n) := ⟨_, rfl⟩
  have hvo : v.ok := by rw [hv]; exact plAt_ok _ _
  have HV := Lib.hid (And.intro hv hvo)
  have HSP := Lib.hid (fun (W : World) (g1 : W.cell? ⟨X, 1, none⟩ = some (.int .u64 t)) (g3 : W.cell? ⟨X, 3, none⟩ = some (.int .i64 h)) (g4 : W.cell? ⟨X, 4, none⟩ = some (.int .i64 n)) => c_EvSpot t h n g1 g3 g4 t0 t1 h0 h1 m0 m1)
  rw [← hv] at HSP

  have hrf : 0 ≤ plRef ref ∧ plRef ref < 18446744073709551616 := by unfold plRef; split <;> omega
  have HR := Lib.hid (fun W => c_Ref ref W r0 r1)
  obtain ⟨ra, hra⟩ : ∃ ra, ra = plRef ref := ⟨_, rfl⟩
  rw [← hra] at hrf HR ⊢
  have hmb := hP.bd ra
  obtain ⟨mv, hmv⟩ : ∃ mv, mv = s.M ra := ⟨_, rfl⟩
  rw [← hmv] at hmb ⊢
  have htm : mv.tmod 2 = mv % 2 := Int.tmod_eq_emod_of_nonneg hmb.1
  have hwm : IntKind.u64.wrap (mv % 2) = mv % 2 := by rw [IntKind.wrap_u64]; omega
  have HL := Lib.hid (c_LoadP ra hP hhi hrf.1 hrf.2 n0 n1)
  rw [← hmv] at HL
  have x5 := hx.c 5 _ rfl
  dsimp only at x5
  clear hP hX hx hhi hall hal hra hmv hvo hv l0 l1 t0 t1 h0 h1 m2 r0 r1 k0 k1 w0 w1 o8 hsp
  go_enter Tryz.func57, Tryz.ntmps57
  go_wp2_with fail
  refine wp_scope_once 1 rfl ?_
  intro J hJ
  have HJ := Lib.hid hJ
  clear hJ
  go_wp2_with fail
  refine (c_EvOver x0).mono ?_
  rintro e w' ⟨rfl, rfl⟩
  go_wp2_with fail
  refine (HR.out _).mono ?_
  rintro e w' ⟨rfl, rfl⟩
  go_wp2_with fail
  refine HL.out.mono ?_
  rintro e w3 ⟨rfl, G3, e3, P3⟩
  have M3 := Lib.hid (HM.out.world hk e3 P3)
  have q6 := M3.out.t.c 6 _ rfl
  have f6 := M3.out.t.f 6
  have M4 := Lib.hid (M3.out.set hk (Nat.le_refl _) (by omega) 6 (.int .u64 mv) (by simp [evCs]))
  clear e3 P3 x0 x5 p0
  go_upto_region 18 with fail
  obtain ⟨w4, hw4'⟩ : ∃ w4, w4 = w3.setCell ⟨X, 6, none⟩ (.int .u64 mv) := ⟨_, rfl⟩
  rw [← hw4'] at M4 ⊢
  clear q6 f6 hw4'
  have q6 := M4.out.t.c 6 _ rfl
  by_cases he : mv % 2 = 0
  · have de : (mv % 2 == 0) = true := by simp [he]
    have HE := Lib.hid he
    clear he
    go_wp2_with fail
    go_step3
    refine ⟨rfl, HJ.out _ _ ?_⟩
    clear HJ q6 de htm hwm
    have y1 := M4.out.t.c 1 _ rfl
    have y3 := M4.out.t.c 3 _ rfl
    have y4 := M4.out.t.c 4 _ rfl
    go_wp2_with fail
    refine (HSP.out _ y1 y3 y4).mono ?_
    rintro e w5 ⟨rfl, hb5⟩
    have M5 := Lib.hid (M4.out.below hb5)
    clear y1 y3 y4

    obtain ⟨W5, hW5⟩ : ∃ W5, W5 = w5.alloc (.cells #[.int .i64 v.b, .int .i64 v.q] 51) := ⟨_, rfl⟩
    have bW5 : Below w5.heap.size w5 W5 := by rw [hW5]; exact (Below.refl _ _).alloc (Nat.le_refl _) _
    have N5 := Lib.hid (M5.out.below bW5)
    have u0 : W5.cell? ⟨w5.heap.size, 0, none⟩ = some (.int .i64 v.b) := by rw [hW5]; simp
    have u1 : W5.cell? ⟨w5.heap.size, 0 + 1, none⟩ = some (.int .i64 v.q) := by rw [hW5]; simp
    have ul : w5.heap.size < W5.heap.size := by rw [hW5]; simp
    go_wp2_with fail
    rw [← hW5]
    clear hW5
    refine (c_NewMark1 v HV.out.2 (b := w5.heap.size) (o := 0) (c := 1) (k + 1) (by omega) ⟨Nat.le_refl _, by unfold maxLen; omega⟩ ul u0 u1 N5.out.e.hi).mono ?_
    clear u0 u1 ul
    rintro e w6 ⟨A, rfl, G6, e6, a6⟩
    have M6 := Lib.hid (N5.out.oth hk e6 (fun t h => by omega))
    clear bW5 hb5

    have y1 := M6.out.t.c 1 _ rfl
    have y3 := M6.out.t.c 3 _ rfl
    have y4 := M6.out.t.c 4 _ rfl
    go_wp2_with fail
    refine (HSP.out _ y1 y3 y4).mono ?_
    rintro e w7 ⟨rfl, hb7⟩
    have M7 := Lib.hid (M6.out.below hb7)
    clear y1 y3 y4

    have A7 := Lib.hid (a6.below hb7)
    clear a6 hb7 e6
    go_wp2_with fail
    refine (c_NewOut (k := k + 3) HV.out.2 M7.out.e.hi).mono ?_
    rintro e w8 ⟨U, rfl, G8, e8, u8⟩
    have M8 := Lib.hid (M7.out.oth hk e8 (fun t h => by omega))
    have A8 := Lib.hid (A7.out.ext e8 (by omega) (by omega))
    have U8 := Lib.hid u8
    clear e8 u8

    have y1 := M8.out.t.c 1 _ rfl
    have y3 := M8.out.t.c 3 _ rfl
    have y4 := M8.out.t.c 4 _ rfl
    go_wp2_with fail
    refine (HSP.out _ y1 y3 y4).mono ?_
    rintro e w9 ⟨rfl, hb9⟩
    have M9 := Lib.hid (M8.out.below hb9)
    clear y1 y3 y4

    have A9 := Lib.hid (A8.out.below hb9)
    have U9 := Lib.hid (U8.out.below hb9)

    obtain ⟨W9, hW9⟩ : ∃ W9, W9 = w9.alloc (.cells #[.int .i64 v.b, .int .i64 v.q] 51) := ⟨_, rfl⟩
    have bW9 : Below w9.heap.size w9 W9 := by rw [hW9]; exact (Below.refl _ _).alloc (Nat.le_refl _) _
    have N9 := Lib.hid (M9.out.below bW9)
    have u0 : W9.cell? ⟨w9.heap.size, 0, none⟩ = some (.int .i64 v.b) := by rw [hW9]; simp
    have u1 : W9.cell? ⟨w9.heap.size, 0 + 1, none⟩ = some (.int .i64 v.q) := by rw [hW9]; simp
    have ul : w9.heap.size < W9.heap.size := by rw [hW9]; simp
    go_wp2_with fail
    rw [← hW9]
    clear hW9
    refine (c_NewMark1 v HV.out.2 (b := w9.heap.size) (o := 0) (c := 1) (k + 4) (by omega) ⟨Nat.le_refl _, by unfold maxLen; omega⟩ ul u0 u1 N9.out.e.hi).mono ?_
    clear u0 u1 ul
    rintro e w10 ⟨L, rfl, G10, e10, a10⟩
    have M10 := Lib.hid (N9.out.oth hk e10 (fun t h => by omega))

    have A10 := Lib.hid ((A9.out.below bW9).ext e10 (by omega) (by omega))
    have U10 := Lib.hid ((U9.out.below bW9).ext e10 (by omega))
    have L10 := Lib.hid a10
    clear bW9 hb9 e10 a10
    have q7 := M10.out.t.c 7 _ rfl
    have f7 := M10.out.t.f 7
    have q8 := M10.out.t.c 8 _ rfl
    have f8 := M10.out.t.f 8
    have q9 := M10.out.t.c 9 _ rfl
    have f9 := M10.out.t.f 9
    have q0 := M10.out.t.c 0 _ rfl
    have f0 := M10.out.t.f 0
    have E1 := ext_set (j := 7) (v := .pointer (some ⟨A, 0, none⟩)) M10.out.e.hi M10.out.t hk
    have M11 := M10.out.set hk (Nat.le_refl _) (by omega) 7 (.pointer (some ⟨A, 0, none⟩)) (by simp [evCs])
    have E2 := ext_set (j := 8) (v := .pointer (some ⟨U, 0, none⟩)) M11.e.hi M11.t hk
    have M12 := M11.set hk (Nat.le_refl _) (by omega) 8 (.pointer (some ⟨U, 0, none⟩)) (by simp [evCs])
    have E3 := ext_set (j := 9) (v := .pointer (some ⟨L, 0, none⟩)) M12.e.hi M12.t hk
    have M13 := M12.set hk (Nat.le_refl _) (by omega) 9 (.pointer (some ⟨L, 0, none⟩)) (by simp [evCs])
    have E4 := ext_set (j := 0) (v := .int .i64 7) M13.e.hi M13.t hk
    have M14 := Lib.hid (M13.set hk (Nat.le_refl _) (by omega) 0 (.int .i64 7) (by simp [evCs]))
    have EE := Lib.hid (((E1.trans E2).trans E3).trans E4)
    clear E1 M11 E2 M12 E3 M13 E4
    go_wp2_with fail
    go_ret
    have hA := A10.out.ext EE.out (by omega) (by omega)
    have hU := U10.out.ext EE.out (by omega)
    have hL := L10.out.ext EE.out (by omega) (by omega)
    rw [HV.out.1] at hA hU hL
    refine ⟨by rw [if_pos HE.out]; rfl, _, M14.out.e, M14.out.p, ?_⟩
    rw [if_pos HE.out]
    exact ⟨all, some ⟨A, 0, none⟩, some ⟨U, 0, none⟩, some ⟨L, 0, none⟩, M14.out.t, fun _ => HAL.out, fun _ => ⟨A, rfl, hA⟩, fun _ => ⟨U, rfl, hU⟩, fun _ => ⟨L, rfl, hL⟩⟩

  · have de : (mv % 2 == 0) = false := by simp [he]
    have HE := Lib.hid he
    clear he
    have q0 := M4.out.t.c 0 _ rfl
    have f0 := M4.out.t.f 0
    have M5 := Lib.hid (M4.out.set hk (Nat.le_refl _) (by omega) 0 (.int .i64 6) (by simp [evCs]))

    go_wp2_with fail
    go_ret
    refine ⟨by rw [if_neg HE.out]; rfl, _, M5.out.e, M5.out.p, ?_⟩
    rw [if_neg HE.out]
    exact EvAt.simple all a ou l M5.out.t (fun _ => HAL.out) (fun h => absurd (show (6 : Int) = 7 from h) (by decide)) (fun h => absurd (show (6 : Int) = 8 from h) (by decide)) (fun h => absurd (show (6 : Int) = 9 from h) (by decide))
end
end
section
open Go.RowKit Go.Shelf
set_option linter.unusedVariables false

section
variable {X : Nat} {w : World} {O : Om} {B : Wb} {f : Cf} {s : AW} {k : Nat}
set_option maxHeartbeats 4000000 in
set_option maxRecDepth 100000 in
theorem c_goes7 {z : Evm} (hP : PW w O B f s) (hX : EvAt w O k X z) (hz : EvOk z) (hl : z.ln = 7) (hk : 10 ≤ k) (hhi : ∀ j, O j ≠ 0 → j < w.heap.size) (n0 : 0 ≤ s.n) (n1 : s.n ≤ 4611686018427387904) :
    Calls Tryz.prog 116 #[.pointer (some ⟨X, 0, none⟩), .pointer (some ⟨B.p, 0, none⟩)] w (EPost w O B f k X (evStep (s, z))) := by
  rw [evStep_7 s z hl]
  obtain ⟨ln, t, h, n, ref, mk, o⟩ := z
  dsimp only at hl
  subst hl
  obtain ⟨all, a, ou, l, hx, hall, ha7, ho7, hl7⟩ := hX.ex
  dsimp only at hall ha7 ho7 hl7 ⊢
  have x0 := hx.c 0 _ rfl
  have p0 := hP.wo.c0
  dsimp only at x0
  have HAL := Lib.hid (hall (by decide))
  unfold EPost
  obtain ⟨A, rfl, hA⟩ := ha7 rfl
  obtain ⟨U, rfl, hU⟩ := ho7 (.inl rfl)
  obtain ⟨L, rfl, hL⟩ := hl7 (.inl rfl)
  have HM : Hid (Me k (k + 5) w O w O B f s k X (evCs ⟨7, t, h, n, ref, mk, o⟩ all (some ⟨A, 0, none⟩) (some ⟨U, 0, none⟩) (some ⟨L, 0, none⟩))) := Lib.hid (Me.start hhi hP hx)

  have x7 := hx.c 7 _ rfl
  have hv := (plAt_ok t (h + n)).ver
  obtain ⟨ve, hve⟩ : ∃ ve, ve = (plAt t (h + n)).ver := ⟨_, rfl⟩
  have es : ∀ mk' o', (evSpot ⟨7, t, h, n, ref, mk', o'⟩).ver = ve := fun _ _ => hve.symm
  rw [es] at hA ⊢
  rw [← hve] at hv
  have HU := Lib.hid hU
  have HL := Lib.hid hL
  have HK := Lib.hid (c_MkStep ve [] (k + 1) hP hA (by simp) (by omega) hhi (by omega) (by omega) n0 n1)
  clear hP hX hx hhi hall ha7 ho7 hl7 hA hU hL es hve hv
  go_enter Tryz.func116, Tryz.ntmps116
  go_wp2_with fail
  refine HK.out.mono ?_
  rintro e w2 ⟨rfl, G2, e2, P2, -⟩
  have hd : (([] : List Int).length == 0) = true := rfl
  rw [hd]
  have M2 := Lib.hid (HM.out.call hk (by omega) (by omega) (by omega) e2 P2)
  have U2 := Lib.hid (HU.out.ext e2 (SX.not (by omega) (by omega)))
  have L2 := Lib.hid (HL.out.ext e2 (SX.not (by omega) (by omega)) (SX.not (by omega) (by omega)))
  clear HK e2 P2 x0 x7 p0 hd

  have q0 := M2.out.t.c 0 _ rfl
  have f0 := M2.out.t.f 0
  have M3 := Lib.hid (M2.out.set hk (Nat.le_refl _) (by omega) 0 (.int .i64 8) (by simp [evCs]))

  have EE := Lib.hid (ext_set (j := 0) (v := .int .i64 8) M2.out.e.hi M2.out.t hk)
  go_wp2_with fail
  go_ret
  exact ⟨rfl, _, M3.out.e, M3.out.p, ⟨all, _, _, _, M3.out.t, fun _ => HAL.out, fun g => absurd (show (8 : Int) = 7 from g) (by decide), fun _ => ⟨U, rfl, U2.out.ext EE.out (by omega)⟩, fun _ => ⟨L, rfl, L2.out.ext EE.out (by omega) (by omega)⟩⟩⟩
set_option maxHeartbeats 4000000 in
set_option maxRecDepth 100000 in
theorem c_goes9 {z : Evm} (hP : PW w O B f s) (hX : EvAt w O k X z) (hz : EvOk z) (hl : z.ln = 9) (hk : 10 ≤ k) (hhi : ∀ j, O j ≠ 0 → j < w.heap.size) (n0 : 0 ≤ s.n) (n1 : s.n ≤ 4611686018427387904) :
    Calls Tryz.prog 116 #[.pointer (some ⟨X, 0, none⟩), .pointer (some ⟨B.p, 0, none⟩)] w (EPost w O B f k X (evStep (s, z))) := by
  rw [evStep_9 s z hl]
  obtain ⟨ln, t, h, n, ref, mk, o⟩ := z
  dsimp only at hl
  subst hl
  obtain ⟨all, a, ou, l, hx, hall, ha7, ho7, hl7⟩ := hX.ex
  dsimp only at hall ha7 ho7 hl7 ⊢
  have x0 := hx.c 0 _ rfl
  have p0 := hP.wo.c0
  dsimp only at x0
  have HAL := Lib.hid (hall (by decide))
  unfold EPost
  obtain ⟨L, rfl, hL⟩ := hl7 (.inr (.inr rfl))
  have HM : Hid (Me k (k + 5) w O w O B f s k X (evCs ⟨9, t, h, n, ref, mk, o⟩ all a ou (some ⟨L, 0, none⟩))) := Lib.hid (Me.start hhi hP hx)

  have x9 := hx.c 9 _ rfl
  have hv := (plAt_ok t (h + n)).ver
  obtain ⟨ve, hve⟩ : ∃ ve, ve = (plAt t (h + n)).ver := ⟨_, rfl⟩
  have es : ∀ mk' o', (evSpot ⟨9, t, h, n, ref, mk', o'⟩).ver = ve := fun _ _ => hve.symm
  rw [es] at hL ⊢
  rw [← hve] at hv
  have HK := Lib.hid (c_MkStep ve [] (k + 4) hP hL (by simp) (by omega) hhi (by omega) (by omega) n0 n1)
  clear hP hX hx hhi hall ha7 ho7 hl7 hL es hve hv
  go_enter Tryz.func116, Tryz.ntmps116
  go_wp2_with fail
  refine HK.out.mono ?_
  rintro e w2 ⟨rfl, G2, e2, P2, -⟩
  have hd : (([] : List Int).length == 0) = true := rfl
  rw [hd]
  have M2 := Lib.hid (HM.out.call hk (by omega) (by omega) (by omega) e2 P2)
  clear HK e2 P2 x0 x9 p0 hd

  have q0 := M2.out.t.c 0 _ rfl
  have f0 := M2.out.t.f 0
  have M3 := Lib.hid (M2.out.set hk (Nat.le_refl _) (by omega) 0 (.int .i64 10) (by simp [evCs]))

  go_wp2_with fail
  go_ret
  exact ⟨rfl, _, M3.out.e, M3.out.p, EvAt.simple all a ou _ M3.out.t (fun _ => HAL.out) (fun h => absurd (show (10 : Int) = 7 from h) (by decide)) (fun h => absurd (show (10 : Int) = 8 from h) (by decide)) (fun h => absurd (show (10 : Int) = 9 from h) (by decide))⟩
set_option maxHeartbeats 4000000 in
set_option maxRecDepth 100000 in
theorem c_goes10 {z : Evm} (hP : PW w O B f s) (hX : EvAt w O k X z) (hz : EvOk z) (hl : z.ln = 10) (hk : 10 ≤ k) (hhi : ∀ j, O j ≠ 0 → j < w.heap.size) (n0 : 0 ≤ s.n) (n1 : s.n ≤ 4611686018427387904) :
    Calls Tryz.prog 116 #[.pointer (some ⟨X, 0, none⟩), .pointer (some ⟨B.p, 0, none⟩)] w (EPost w O B f k X (evStep (s, z))) := by
  rw [evStep_10 s z hl]
  obtain ⟨ln, t, h, n, ref, mk, o⟩ := z
  dsimp only at hl
  subst hl
  obtain ⟨all, a, ou, l, hx, hall, ha7, ho7, hl7⟩ := hX.ex
  dsimp only at hall ha7 ho7 hl7 ⊢
  have x0 := hx.c 0 _ rfl
  have p0 := hP.wo.c0
  dsimp only at x0
  have HAL := Lib.hid (hall (by decide))
  unfold EPost
  have HM : Hid (Me k (k + 5) w O w O B f s k X (evCs ⟨10, t, h, n, ref, mk, o⟩ all a ou l)) := Lib.hid (Me.start hhi hP hx)

  have HL := Lib.hid (c_AddP 6 18446744073709551615 hP hhi (by decide) (by decide) (by decide) (by decide) n0 n1)
  clear hP hX hx hhi hall ha7 ho7 hl7
  go_enter Tryz.func116, Tryz.ntmps116
  go_wp2_with fail
  refine HL.out.mono ?_
  rintro e w2 ⟨rfl, G2, e2, P2⟩
  have M2 := Lib.hid (HM.out.world hk e2 P2)
  clear HL e2 P2 x0 p0

  have q0 := M2.out.t.c 0 _ rfl
  have f0 := M2.out.t.f 0
  have M3 := Lib.hid (M2.out.set hk (Nat.le_refl _) (by omega) 0 (.int .i64 11) (by simp [evCs]))

  go_wp2_with fail
  go_ret
  exact ⟨rfl, _, M3.out.e, M3.out.p, EvAt.simple all a ou l M3.out.t (fun _ => HAL.out) (fun h => absurd (show (11 : Int) = 7 from h) (by decide)) (fun h => absurd (show (11 : Int) = 8 from h) (by decide)) (fun h => absurd (show (11 : Int) = 9 from h) (by decide))⟩
set_option maxHeartbeats 4000000 in
set_option maxRecDepth 100000 in
theorem c_goes12 {z : Evm} (hP : PW w O B f s) (hX : EvAt w O k X z) (hz : EvOk z) (hl : z.ln = 12) (hk : 10 ≤ k) (hhi : ∀ j, O j ≠ 0 → j < w.heap.size) (n0 : 0 ≤ s.n) (n1 : s.n ≤ 4611686018427387904) :
    Calls Tryz.prog 116 #[.pointer (some ⟨X, 0, none⟩), .pointer (some ⟨B.p, 0, none⟩)] w (EPost w O B f k X (evStep (s, z))) := by
  rw [evStep_12 s z hl]
  obtain ⟨ln, t, h, n, ref, mk, o⟩ := z
  dsimp only at hl
  subst hl
  obtain ⟨all, a, ou, l, hx, hall, ha7, ho7, hl7⟩ := hX.ex
  dsimp only at hall ha7 ho7 hl7 ⊢
  have x0 := hx.c 0 _ rfl
  have p0 := hP.wo.c0
  dsimp only at x0
  have HAL := Lib.hid (hall (by decide))
  unfold EPost
  have HM : Hid (Me k (k + 5) w O w O B f s k X (evCs ⟨12, t, h, n, ref, mk, o⟩ all a ou l)) := Lib.hid (Me.start hhi hP hx)

  have HL := Lib.hid (c_StoreP 5 0 hP hhi (by decide) (by decide) (by decide) (by decide) n0 n1)
  clear hP hX hx hhi hall ha7 ho7 hl7
  go_enter Tryz.func116, Tryz.ntmps116
  go_wp2_with fail
  refine HL.out.mono ?_
  rintro e w2 ⟨rfl, G2, e2, P2⟩
  have M2 := Lib.hid (HM.out.world hk e2 P2)
  clear HL e2 P2 x0 p0

  have q0 := M2.out.t.c 0 _ rfl
  have f0 := M2.out.t.f 0
  have M3 := Lib.hid (M2.out.set hk (Nat.le_refl _) (by omega) 0 (.int .i64 0) (by simp [evCs]))

  go_wp2_with fail
  go_ret
  exact ⟨rfl, _, M3.out.e, M3.out.p, EvAt.simple all a ou l M3.out.t (fun _ => HAL.out) (fun h => absurd (show (0 : Int) = 7 from h) (by decide)) (fun h => absurd (show (0 : Int) = 8 from h) (by decide)) (fun h => absurd (show (0 : Int) = 9 from h) (by decide))⟩
set_option maxHeartbeats 4000000 in
set_option maxRecDepth 100000 in
theorem c_goes8_0 {z : Evm} (hP : PW w O B f s) (hX : EvAt w O k X z) (hz : EvOk z) (hl : z.ln = 8) (ho : z.o.ln = 0) (hk : 10 ≤ k) (hhi : ∀ j, O j ≠ 0 → j < w.heap.size) (n0 : 0 ≤ s.n) (n1 : s.n ≤ 4611686018427387904) :
    Calls Tryz.prog 116 #[.pointer (some ⟨X, 0, none⟩), .pointer (some ⟨B.p, 0, none⟩)] w (EPost w O B f k X (evStep (s, z))) := by
  rw [evStep_8 s z hl]
  obtain ⟨ln, t, h, n, ref, mk, o⟩ := z
  dsimp only at hl
  subst hl
  obtain ⟨all, a, ou, l, hx, hall, ha7, ho7, hl7⟩ := hX.ex
  dsimp only at hall ha7 ho7 hl7 ⊢
  have x0 := hx.c 0 _ rfl
  have p0 := hP.wo.c0
  dsimp only at x0
  have HAL := Lib.hid (hall (by decide))
  unfold EPost
  obtain ⟨U, rfl, hU⟩ := ho7 (.inr rfl)
  obtain ⟨L, rfl, hL⟩ := hl7 (.inr (.inl rfl))
  obtain ⟨oln, ow⟩ := o
  dsimp only at ho
  subst ho
  have HM : Hid (Me k (k + 5) w O w O B f s k X (evCs ⟨8, t, h, n, ref, mk, ⟨0, ow⟩⟩ all a (some ⟨U, 0, none⟩) (some ⟨L, 0, none⟩))) := Lib.hid (Me.start hhi hP hx)

  obtain ⟨l0, l1, t0, t1, h0, h1, m0, m1, m2, r0, r1, k0, k1, w0, w1, o8⟩ := hz
  dsimp only at t0 t1 h0 h1 m0 m1 m2 r0 r1 k0 k1
  have h1 := h1 (.inl (by decide))
  dsimp only at w0 w1
  have hal := hall (by decide)
  have HAL := Lib.hid hal
  have hsp := plSpots_bd t
  rw [← hal] at hsp
  have hw1 : wrap64 (n + 1) = n + 1 := by unfold wrap64; omega
  have hw2 : IntKind.i64.wrap (n + 1) = n + 1 := by simp [IntKind.wrap, IntKind.bits, IntKind.signed]; omega
  have hw3 : wrap64 (2 * all) = 2 * all := by unfold wrap64; omega
  have hw4 : IntKind.i64.wrap (2 * all) = 2 * all := by simp [IntKind.wrap, IntKind.bits, IntKind.signed]; omega
  obtain ⟨v, hv⟩ : ∃ v, v = plAt t (h + n) := ⟨_, rfl⟩
  have hvo : v.ok := by rw [hv]; exact plAt_ok _ _
  have HV := Lib.hid (And.intro hv hvo)
  have HSP := Lib.hid (fun (W : World) (g1 : W.cell? ⟨X, 1, none⟩ = some (.int .u64 t)) (g3 : W.cell? ⟨X, 3, none⟩ = some (.int .i64 h)) (g4 : W.cell? ⟨X, 4, none⟩ = some (.int .i64 n)) => c_EvSpot t h n g1 g3 g4 t0 t1 h0 h1 m0 m1)
  rw [← hv] at HSP

  have esv : ∀ mk' o', evSpot ⟨8, t, h, n, ref, mk', o'⟩ = v := fun _ _ => hv.symm
  rw [esv] at hU hL ⊢
  have ht := hvo.tags
  have ht0 : v.tags ≠ 0 := by omega
  have HU := Lib.hid hU
  have HL := Lib.hid hL
  have hU0 := hU.ob.c 0 _ rfl
  have hU4 := hU.ob.c 4 _ rfl
  have HK := Lib.hid (c_OutStep (k := k + 3) ⟨0, ow⟩ hP hU hvo (show (0 : Nat) < 3 by decide) w0 w1 (by omega) hhi n0 n1)
  have hon : (outStep v s ⟨0, ow⟩).2.ln = 1 := rfl
  have honn : (outStep v s ⟨0, ow⟩).1.n = s.n + 1 := rfl
  obtain ⟨o2, ho2⟩ : ∃ o2, o2 = (outStep v s ⟨0, ow⟩).2 := ⟨_, rfl⟩
  obtain ⟨s2, hs2⟩ : ∃ s2, s2 = (outStep v s ⟨0, ow⟩).1 := ⟨_, rfl⟩
  rw [← ho2, ← hs2] at HK
  rw [← ho2] at hon
  rw [← hs2] at honn
  have HO2 := Lib.hid (And.intro ho2 hs2)
  have x5 := hx.c 5 _ rfl
  have x8 := hx.c 8 _ rfl
  dsimp only at x5
  have g1 : decide (1 < (0 : Nat)) = false := by decide
  have hd : ((0 : Nat) == 2) = false := by decide
  clear hP hX hx hhi hall hal ha7 ho7 hl7 hU hL esv ho2 hs2 hvo hv ht l0 l1 t0 t1 h0 h1 m2 r0 r1 k0 k1 w0 w1 o8 hsp
  go_enter Tryz.func116, Tryz.ntmps116
  go_wp2_with fail
  refine (c_OutGone v.tags 0 hU0 hU4 ht0).mono ?_
  rintro e w' ⟨rfl, rfl⟩
  rw [g1]
  go_wp2_with fail
  refine HK.out.mono ?_
  rintro e w2 ⟨rfl, G2, e2, P2, u2⟩
  rw [hd]
  have M2 := Lib.hid (HM.out.call hk (by omega) (by omega) (by omega) e2 P2)
  have U2 := Lib.hid u2
  have L2 := Lib.hid (HL.out.ext e2 (SX.not (by omega) (by omega)) (SX.not (by omega) (by omega)))
  have j0 := u2.ob.c 0 _ rfl
  have j4 := u2.ob.c 4 _ rfl
  rw [hon] at j4
  have y0 := M2.out.t.c 0 _ rfl
  have y5 := M2.out.t.c 5 _ rfl
  have y8 := M2.out.t.c 8 _ rfl
  have g2 : decide (1 < (1 : Nat)) = false := by decide
  clear HK e2 P2 u2 x0 x5 x8 hU0 hU4 g1 hd

  go_wp2_with fail
  refine (c_OutGone v.tags 1 j0 j4 ht0).mono ?_
  rintro e w' ⟨rfl, rfl⟩
  rw [g2]
  clear j0 j4 g2

  go_wp2_with fail
  go_ret
  refine ⟨by first | rfl | (simp [evOver]; done), _, M2.out.e, ?_, ?_⟩
  · (try rw [if_neg (show ¬ ((0 : Nat) = 1) by decide)]); rw [← HO2.out.2]; exact M2.out.p
  · rw [← HO2.out.1]
    exact ⟨all, _, _, _, M2.out.t, fun _ => HAL.out, fun g => absurd (show (8 : Int) = 7 from g) (by decide), fun _ => ⟨U, rfl, by rw [HV.out.1] at U2; exact U2.out⟩, fun _ => ⟨L, rfl, by rw [HV.out.1] at L2; exact L2.out⟩⟩
set_option maxHeartbeats 4000000 in
set_option maxRecDepth 100000 in
theorem c_goes8_1 {z : Evm} (hP : PW w O B f s) (hX : EvAt w O k X z) (hz : EvOk z) (hl : z.ln = 8) (ho : z.o.ln = 1) (hk : 10 ≤ k) (hhi : ∀ j, O j ≠ 0 → j < w.heap.size) (n0 : 0 ≤ s.n) (n1 : s.n ≤ 4611686018427387904) :
    Calls Tryz.prog 116 #[.pointer (some ⟨X, 0, none⟩), .pointer (some ⟨B.p, 0, none⟩)] w (EPost w O B f k X (evStep (s, z))) := by
  rw [evStep_8 s z hl]
  obtain ⟨ln, t, h, n, ref, mk, o⟩ := z
  dsimp only at hl
  subst hl
  obtain ⟨all, a, ou, l, hx, hall, ha7, ho7, hl7⟩ := hX.ex
  dsimp only at hall ha7 ho7 hl7 ⊢
  have x0 := hx.c 0 _ rfl
  have p0 := hP.wo.c0
  dsimp only at x0
  have HAL := Lib.hid (hall (by decide))
  unfold EPost
  obtain ⟨U, rfl, hU⟩ := ho7 (.inr rfl)
  obtain ⟨L, rfl, hL⟩ := hl7 (.inr (.inl rfl))
  obtain ⟨oln, ow⟩ := o
  dsimp only at ho
  subst ho
  have HM : Hid (Me k (k + 5) w O w O B f s k X (evCs ⟨8, t, h, n, ref, mk, ⟨1, ow⟩⟩ all a (some ⟨U, 0, none⟩) (some ⟨L, 0, none⟩))) := Lib.hid (Me.start hhi hP hx)

  obtain ⟨l0, l1, t0, t1, h0, h1, m0, m1, m2, r0, r1, k0, k1, w0, w1, o8⟩ := hz
  dsimp only at t0 t1 h0 h1 m0 m1 m2 r0 r1 k0 k1
  have h1 := h1 (.inl (by decide))
  dsimp only at w0 w1
  have hal := hall (by decide)
  have HAL := Lib.hid hal
  have hsp := plSpots_bd t
  rw [← hal] at hsp
  have hw1 : wrap64 (n + 1) = n + 1 := by unfold wrap64; omega
  have hw2 : IntKind.i64.wrap (n + 1) = n + 1 := by simp [IntKind.wrap, IntKind.bits, IntKind.signed]; omega
  have hw3 : wrap64 (2 * all) = 2 * all := by unfold wrap64; omega
  have hw4 : IntKind.i64.wrap (2 * all) = 2 * all := by simp [IntKind.wrap, IntKind.bits, IntKind.signed]; omega
  obtain ⟨v, hv⟩ : ∃ v, v = plAt t (h + n) := ⟨_, rfl⟩
  have hvo : v.ok := by rw [hv]; exact plAt_ok _ _
  have HV := Lib.hid (And.intro hv hvo)
  have HSP := Lib.hid (fun (W : World) (g1 : W.cell? ⟨X, 1, none⟩ = some (.int .u64 t)) (g3 : W.cell? ⟨X, 3, none⟩ = some (.int .i64 h)) (g4 : W.cell? ⟨X, 4, none⟩ = some (.int .i64 n)) => c_EvSpot t h n g1 g3 g4 t0 t1 h0 h1 m0 m1)
  rw [← hv] at HSP

  have esv : ∀ mk' o', evSpot ⟨8, t, h, n, ref, mk', o'⟩ = v := fun _ _ => hv.symm
  rw [esv] at hU hL ⊢
  have ht := hvo.tags
  have ht0 : v.tags ≠ 0 := by omega
  have HU := Lib.hid hU
  have HL := Lib.hid hL
  have hU0 := hU.ob.c 0 _ rfl
  have hU4 := hU.ob.c 4 _ rfl
  have HK := Lib.hid (c_OutStep (k := k + 3) ⟨1, ow⟩ hP hU hvo (show (1 : Nat) < 3 by decide) w0 w1 (by omega) hhi n0 n1)
  have hon : (outStep v s ⟨1, ow⟩).2.ln = 2 := rfl
  have honn : (outStep v s ⟨1, ow⟩).1.n = s.n + 1 := rfl
  obtain ⟨o2, ho2⟩ : ∃ o2, o2 = (outStep v s ⟨1, ow⟩).2 := ⟨_, rfl⟩
  obtain ⟨s2, hs2⟩ : ∃ s2, s2 = (outStep v s ⟨1, ow⟩).1 := ⟨_, rfl⟩
  rw [← ho2, ← hs2] at HK
  rw [← ho2] at hon
  rw [← hs2] at honn
  have HO2 := Lib.hid (And.intro ho2 hs2)
  have x5 := hx.c 5 _ rfl
  have x8 := hx.c 8 _ rfl
  dsimp only at x5
  have g1 : decide (1 < (1 : Nat)) = false := by decide
  have hd : ((1 : Nat) == 2) = false := by decide
  clear hP hX hx hhi hall hal ha7 ho7 hl7 hU hL esv ho2 hs2 hvo hv ht l0 l1 t0 t1 h0 h1 m2 r0 r1 k0 k1 w0 w1 o8 hsp
  go_enter Tryz.func116, Tryz.ntmps116
  go_wp2_with fail
  refine (c_OutGone v.tags 1 hU0 hU4 ht0).mono ?_
  rintro e w' ⟨rfl, rfl⟩
  rw [g1]
  go_wp2_with fail
  refine HK.out.mono ?_
  rintro e w2 ⟨rfl, G2, e2, P2, u2⟩
  rw [hd]
  have M2 := Lib.hid (HM.out.call hk (by omega) (by omega) (by omega) e2 P2)
  have U2 := Lib.hid u2
  have L2 := Lib.hid (HL.out.ext e2 (SX.not (by omega) (by omega)) (SX.not (by omega) (by omega)))
  have j0 := u2.ob.c 0 _ rfl
  have j4 := u2.ob.c 4 _ rfl
  rw [hon] at j4
  have y0 := M2.out.t.c 0 _ rfl
  have y5 := M2.out.t.c 5 _ rfl
  have y8 := M2.out.t.c 8 _ rfl
  have g2 : decide (1 < (2 : Nat)) = true := by decide
  clear HK e2 P2 u2 x0 x5 x8 hU0 hU4 g1 hd

  go_wp2_with fail
  refine (c_OutGone v.tags 2 j0 j4 ht0).mono ?_
  rintro e w' ⟨rfl, rfl⟩
  rw [g2]
  clear j0 j4 g2

  go_wp2_with fail
  go_region_held3 (fun w' => w'.cell? ⟨X, 5, none⟩ = some (.int .i64 ref)) (go_keep)
    ((first
      | (go_at_call 113
         have N2 := Lib.hid M2.out.drew
         refine (HSP.out _ (N2.out.t.c 1 _ rfl) (N2.out.t.c 3 _ rfl) (N2.out.t.c 4 _ rfl)).mono ?_
         rintro e w3 ⟨rfl, hb3⟩
         have M3 := Lib.hid (N2.out.below hb3)
         have y53 := M3.out.t.c 5 _ rfl
         have U3 := Lib.hid ((U2.out.below (drew_below _)).below hb3)
         have L3 := Lib.hid ((L2.out.below (drew_below _)).below hb3)
         clear hb3)
      | (go_at_call 194
         refine (c_WNote 1 ref v.b v.q v.s 0 M3.out.p M3.out.e.hi (by decide) (by decide)).mono ?_
         rintro e w4 ⟨rfl, G4, e4, P4⟩
         have M4 := Lib.hid (M3.out.world hk e4 P4)
         have y54 := M4.out.t.c 5 _ rfl
         have U4 := Lib.hid (U3.out.ext e4 (by unfold SW; omega))
         have L4 := Lib.hid (L3.out.ext e4 (by unfold SW; omega) (by unfold SW; omega))
         clear e4 P4)))
  all_goals
    go_wp2_with fail
    go_ret
    refine ⟨by first | rfl | (simp [evOver]; done), _, M4.out.e, ?_, ?_⟩
    · (try rw [if_pos rfl]); rw [← HO2.out.2]; exact M4.out.p
    · rw [← HO2.out.1]
      exact ⟨all, _, _, _, M4.out.t, fun _ => HAL.out, fun g => absurd (show (8 : Int) = 7 from g) (by decide), fun _ => ⟨U, rfl, by rw [HV.out.1] at U4; exact U4.out⟩, fun _ => ⟨L, rfl, by rw [HV.out.1] at L4; exact L4.out⟩⟩
set_option maxHeartbeats 4000000 in
set_option maxRecDepth 100000 in
theorem c_goes8_2 {z : Evm} (hP : PW w O B f s) (hX : EvAt w O k X z) (hz : EvOk z) (hl : z.ln = 8) (ho : z.o.ln = 2) (hk : 10 ≤ k) (hhi : ∀ j, O j ≠ 0 → j < w.heap.size) (n0 : 0 ≤ s.n) (n1 : s.n ≤ 4611686018427387904) :
    Calls Tryz.prog 116 #[.pointer (some ⟨X, 0, none⟩), .pointer (some ⟨B.p, 0, none⟩)] w (EPost w O B f k X (evStep (s, z))) := by
  rw [evStep_8 s z hl]
  obtain ⟨ln, t, h, n, ref, mk, o⟩ := z
  dsimp only at hl
  subst hl
  obtain ⟨all, a, ou, l, hx, hall, ha7, ho7, hl7⟩ := hX.ex
  dsimp only at hall ha7 ho7 hl7 ⊢
  have x0 := hx.c 0 _ rfl
  have p0 := hP.wo.c0
  dsimp only at x0
  have HAL := Lib.hid (hall (by decide))
  unfold EPost
  obtain ⟨U, rfl, hU⟩ := ho7 (.inr rfl)
  obtain ⟨L, rfl, hL⟩ := hl7 (.inr (.inl rfl))
  obtain ⟨oln, ow⟩ := o
  dsimp only at ho
  subst ho
  have HM : Hid (Me k (k + 5) w O w O B f s k X (evCs ⟨8, t, h, n, ref, mk, ⟨2, ow⟩⟩ all a (some ⟨U, 0, none⟩) (some ⟨L, 0, none⟩))) := Lib.hid (Me.start hhi hP hx)

  obtain ⟨l0, l1, t0, t1, h0, h1, m0, m1, m2, r0, r1, k0, k1, w0, w1, o8⟩ := hz
  dsimp only at t0 t1 h0 h1 m0 m1 m2 r0 r1 k0 k1
  have h1 := h1 (.inl (by decide))
  dsimp only at w0 w1
  have hal := hall (by decide)
  have HAL := Lib.hid hal
  have hsp := plSpots_bd t
  rw [← hal] at hsp
  have hw1 : wrap64 (n + 1) = n + 1 := by unfold wrap64; omega
  have hw2 : IntKind.i64.wrap (n + 1) = n + 1 := by simp [IntKind.wrap, IntKind.bits, IntKind.signed]; omega
  have hw3 : wrap64 (2 * all) = 2 * all := by unfold wrap64; omega
  have hw4 : IntKind.i64.wrap (2 * all) = 2 * all := by simp [IntKind.wrap, IntKind.bits, IntKind.signed]; omega
  obtain ⟨v, hv⟩ : ∃ v, v = plAt t (h + n) := ⟨_, rfl⟩
  have hvo : v.ok := by rw [hv]; exact plAt_ok _ _
  have HV := Lib.hid (And.intro hv hvo)
  have HSP := Lib.hid (fun (W : World) (g1 : W.cell? ⟨X, 1, none⟩ = some (.int .u64 t)) (g3 : W.cell? ⟨X, 3, none⟩ = some (.int .i64 h)) (g4 : W.cell? ⟨X, 4, none⟩ = some (.int .i64 n)) => c_EvSpot t h n g1 g3 g4 t0 t1 h0 h1 m0 m1)
  rw [← hv] at HSP

  have esv : ∀ mk' o', evSpot ⟨8, t, h, n, ref, mk', o'⟩ = v := fun _ _ => hv.symm
  rw [esv] at hU hL ⊢
  have ht := hvo.tags
  have ht0 : v.tags ≠ 0 := by omega
  have HU := Lib.hid hU
  have HL := Lib.hid hL
  have hU0 := hU.ob.c 0 _ rfl
  have hU4 := hU.ob.c 4 _ rfl
  have HK := Lib.hid (c_OutStep (k := k + 3) ⟨2, ow⟩ hP hU hvo (show (2 : Nat) < 3 by decide) w0 w1 (by omega) hhi n0 n1)
  have hon : (outStep v s ⟨2, ow⟩).2.ln = 3 := rfl
  have honn : (outStep v s ⟨2, ow⟩).1.n = s.n + 1 := rfl
  obtain ⟨o2, ho2⟩ : ∃ o2, o2 = (outStep v s ⟨2, ow⟩).2 := ⟨_, rfl⟩
  obtain ⟨s2, hs2⟩ : ∃ s2, s2 = (outStep v s ⟨2, ow⟩).1 := ⟨_, rfl⟩
  rw [← ho2, ← hs2] at HK
  rw [← ho2] at hon
  rw [← hs2] at honn
  have HO2 := Lib.hid (And.intro ho2 hs2)
  have x5 := hx.c 5 _ rfl
  have x8 := hx.c 8 _ rfl
  dsimp only at x5
  have g1 : decide (1 < (2 : Nat)) = true := by decide
  have hd : ((2 : Nat) == 2) = true := by decide
  clear hP hX hx hhi hall hal ha7 ho7 hl7 hU hL esv ho2 hs2 hvo hv ht l0 l1 t0 t1 h0 h1 m2 r0 r1 k0 k1 w0 w1 o8 hsp
  go_enter Tryz.func116, Tryz.ntmps116
  go_wp2_with fail
  refine (c_OutGone v.tags 2 hU0 hU4 ht0).mono ?_
  rintro e w' ⟨rfl, rfl⟩
  rw [g1]
  go_wp2_with fail
  refine HK.out.mono ?_
  rintro e w2 ⟨rfl, G2, e2, P2, u2⟩
  rw [hd]
  have M2 := Lib.hid (HM.out.call hk (by omega) (by omega) (by omega) e2 P2)
  have U2 := Lib.hid u2
  have L2 := Lib.hid (HL.out.ext e2 (SX.not (by omega) (by omega)) (SX.not (by omega) (by omega)))
  have j0 := u2.ob.c 0 _ rfl
  have j4 := u2.ob.c 4 _ rfl
  rw [hon] at j4
  have y0 := M2.out.t.c 0 _ rfl
  have y5 := M2.out.t.c 5 _ rfl
  have y8 := M2.out.t.c 8 _ rfl
  have g2 : decide (1 < (3 : Nat)) = true := by decide
  clear HK e2 P2 u2 x0 x5 x8 hU0 hU4 g1 hd

  have q0 := M2.out.t.c 0 _ rfl
  have f0 := M2.out.t.f 0
  have M3 := Lib.hid (M2.out.set hk (Nat.le_refl _) (by omega) 0 (.int .i64 9) (by simp [evCs]))

  have EE := Lib.hid (ext_set (j := 0) (v := .int .i64 9) M2.out.e.hi M2.out.t hk)
  go_wp2_with fail
  go_ret
  refine ⟨by first | rfl | (simp [evOver]; done), _, M3.out.e, ?_, ?_⟩
  · (try rw [if_neg (show ¬ ((2 : Nat) = 1) by decide)]); rw [← HO2.out.2]; exact M3.out.p
  · rw [← HO2.out.1]
    exact ⟨all, _, _, _, M3.out.t, fun _ => HAL.out, fun g => absurd (show (9 : Int) = 7 from g) (by decide), fun g => by rcases g with g | g; exact absurd (show (9 : Int) = 7 from g) (by decide); exact absurd (show (9 : Int) = 8 from g) (by decide), fun _ => ⟨L, rfl, by rw [HV.out.1] at L2; exact L2.out.ext EE.out (by omega) (by omega)⟩⟩
end
end
section
open Go.RowKit Go.Shelf
set_option linter.unusedVariables false

section
variable {X : Nat} {w : World} {O : Om} {B : Wb} {f : Cf} {s : AW} {k : Nat}
set_option maxHeartbeats 4000000 in
set_option maxRecDepth 100000 in
theorem c_moves0 (z : Evm) (all : Int) (a ou l : Option Addr) (hP : PW w O B f s) (hx : Ob w O k X (evCs z all a ou l)) (hr : z.ref = 0) (h0 : 0 ≤ z.h) (h1 : z.h < 32768) (hk : 10 ≤ k) (hhi : ∀ j, O j ≠ 0 → j < w.heap.size) (n0 : 0 ≤ s.n) (n1 : s.n ≤ 4611686018427387904) :
    Calls Tryz.prog 196 #[.pointer (some ⟨X, 0, none⟩), .pointer (some ⟨B.p, 0, none⟩)] w (RP (SX k k) w O (.tuple #[]) fun W G => PW W G B f (awNote 8 0 0 0 0 z.n (awStore 4 z.h s)) ∧ Ob W G k X (evCs z all a ou l)) := by
  obtain ⟨ln, t, h, n, ref, mk, o⟩ := z
  dsimp only at hr h0 h1 ⊢
  subst hr
  have HM : Hid (Me k k w O w O B f s k X (evCs ⟨ln, t, h, n, 0, mk, o⟩ all a ou l)) := Lib.hid (Me.start hhi hP hx)
  have x5 := hx.c 5 _ rfl
  have x3 := hx.c 3 _ rfl
  have p0 := hP.wo.c0
  dsimp only at x5 x3
  have hw : IntKind.u64.wrap h = h := by rw [IntKind.wrap_u64]; omega
  clear hP hx hhi
  go_enter Tryz.func196, Tryz.ntmps196
  go_wp2_with fail
  go_region_held3 (fun w' => w'.cell? ⟨B.p, 0, none⟩ = some (.pointer (some ⟨B.c, 0, none⟩)) ∧ w'.cell? ⟨X, 3, none⟩ = some (.int .i64 h)) (go_keep)
    ((go_at_call 24
      refine (c_StoreP 4 h (w := w.drew) HM.out.drew.p HM.out.drew.e.hi (by decide) (by decide) h0 (by omega) n0 n1).mono ?_
      rintro e w1 ⟨rfl, G1, e1, P1⟩
      have M1 := Lib.hid (HM.out.drew.world hk e1 P1)
      have p01 := M1.out.p.wo.c0
      have x31 := M1.out.t.c 3 _ rfl
      have x41 := M1.out.t.c 4 _ rfl
      dsimp only at x31 x41
      clear e1 P1))
  all_goals
    clear x5 x3 p0 p01 x31
    go_wp2_with fail
    refine (c_WNote 8 0 0 0 0 n M1.out.p M1.out.e.hi (by decide) (by decide)).mono ?_
    rintro e w2 ⟨rfl, G2, e2, P2⟩
    have M2 := Lib.hid (M1.out.world hk e2 P2)
    clear e2 P2
    go_wp2_with fail
    go_end0
    exact M2.out.rp
set_option maxHeartbeats 4000000 in
set_option maxRecDepth 100000 in
theorem c_moves1 (z : Evm) (all : Int) (a ou l : Option Addr) (hP : PW w O B f s) (hx : Ob w O k X (evCs z all a ou l)) (hal : all = plSpots z.t) (hr : z.ref ≠ 0) (t0 : 0 ≤ z.t) (t1 : z.t < 18446744073709551616) (h0 : 0 ≤ z.h) (h1 : z.h < 32768) (m0 : 0 ≤ z.n) (m1 : z.n ≤ 65536) (hk : 10 ≤ k) (hhi : ∀ j, O j ≠ 0 → j < w.heap.size) (n0 : 0 ≤ s.n) (n1 : s.n ≤ 4611686018427387904) :
    Calls Tryz.prog 196 #[.pointer (some ⟨X, 0, none⟩), .pointer (some ⟨B.p, 0, none⟩)] w (RP (SX k k) w O (.tuple #[]) fun W G => PW W G B f (awNote 8 z.ref (evSpot z).b (evSpot z).q (evSpot z).s (z.n + 1) (awStore 4 ((z.h + z.n + 1) % plSpots z.t) s)) ∧ Ob W G k X (evCs z all a ou l)) := by
  obtain ⟨ln, t, h, n, ref, mk, o⟩ := z
  dsimp only at hal hr t0 t1 h0 h1 m0 m1 ⊢
  have hsp := plSpots_bd t
  rw [← hal] at hsp ⊢
  have HM : Hid (Me k k w O w O B f s k X (evCs ⟨ln, t, h, n, ref, mk, o⟩ all a ou l)) := Lib.hid (Me.start hhi hP hx)
  have x5 := hx.c 5 _ rfl
  have x3 := hx.c 3 _ rfl
  have x4 := hx.c 4 _ rfl
  have x2 := hx.c 2 _ rfl
  have p0 := hP.wo.c0
  dsimp only at x5 x3 x4
  have dr : (ref == 0) = false := by simp [hr]
  have hw1 : wrap64 (h + n) = h + n := by unfold wrap64; omega
  have hw2 : IntKind.i64.wrap (h + n) = h + n := by simp [IntKind.wrap, IntKind.bits, IntKind.signed]; omega
  have hw3 : wrap64 (h + n + 1) = h + n + 1 := by unfold wrap64; omega
  have hw4 : IntKind.i64.wrap (h + n + 1) = h + n + 1 := by simp [IntKind.wrap, IntKind.bits, IntKind.signed]; omega
  have hw5 : wrap64 (n + 1) = n + 1 := by unfold wrap64; omega
  have hw6 : IntKind.i64.wrap (n + 1) = n + 1 := by simp [IntKind.wrap, IntKind.bits, IntKind.signed]; omega
  have dz : (all == 0) = false := by rw [beq_eq_false_iff_ne]; omega
  have dz2 : ¬ all = 0 := by omega
  have dz3 : 0 < all := by omega
  have dn1 : (all == -1) = false := by rw [beq_eq_false_iff_ne]; omega
  have htm : (h + n + 1).tmod all = (h + n + 1) % all := Int.tmod_eq_emod_of_nonneg (by omega)
  have hm0 := Int.emod_nonneg (h + n + 1) (show all ≠ 0 by omega)
  have hm1 := Int.emod_lt_of_pos (h + n + 1) (show 0 < all by omega)
  obtain ⟨y, hy⟩ : ∃ y, y = (h + n + 1) % all := ⟨_, rfl⟩
  rw [← hy] at htm hm0 hm1 ⊢
  have wy : IntKind.u64.wrap y = y := by rw [IntKind.wrap_u64]; omega
  have wy2 : wrap64 y = y := by unfold wrap64; omega
  have wy3 : IntKind.i64.wrap y = y := by simp [IntKind.wrap, IntKind.bits, IntKind.signed]; omega
  have HSP := Lib.hid (fun (W : World) (g1 : W.cell? ⟨X, 1, none⟩ = some (.int .u64 t)) (g3 : W.cell? ⟨X, 3, none⟩ = some (.int .i64 h)) (g4 : W.cell? ⟨X, 4, none⟩ = some (.int .i64 n)) => c_EvSpot t h n g1 g3 g4 t0 t1 h0 h1 m0 m1)
  obtain ⟨v, hv⟩ : ∃ v, v = plAt t (h + n) := ⟨_, rfl⟩
  have esv : evSpot ⟨ln, t, h, n, ref, mk, o⟩ = v := hv.symm
  rw [esv]
  rw [← hv] at HSP
  clear hP hx hhi hal hr hy esv hv
  go_enter Tryz.func196, Tryz.ntmps196
  go_wp2_with fail
  go_region_held3 (fun w' => w'.cell? ⟨B.p, 0, none⟩ = some (.pointer (some ⟨B.c, 0, none⟩)) ∧ w'.cell? ⟨X, 2, none⟩ = some (.int .i64 all) ∧ w'.cell? ⟨X, 3, none⟩ = some (.int .i64 h) ∧ w'.cell? ⟨X, 4, none⟩ = some (.int .i64 n)) (go_keep)
    ((go_at_call 24
      refine (c_StoreP 4 y (w := w.drew) HM.out.drew.p HM.out.drew.e.hi (by decide) (by decide) hm0 (by omega) n0 n1).mono ?_
      rintro e w1 ⟨rfl, G1, e1, P1⟩
      have M1 := Lib.hid (HM.out.drew.world hk e1 P1)
      have p01 := M1.out.p.wo.c0
      have x21 := M1.out.t.c 2 _ rfl
      have x31 := M1.out.t.c 3 _ rfl
      have x41 := M1.out.t.c 4 _ rfl
      have x51 := M1.out.t.c 5 _ rfl
      dsimp only at x31 x41 x51
      clear e1 P1))
  all_goals
    clear x5 x3 x4 x2 p0 p01 x21 x31
    go_wp2_with fail
    go_region_held3 (fun w' => w'.cell? ⟨X, 4, none⟩ = some (.int .i64 n) ∧ w'.cell? ⟨X, 5, none⟩ = some (.int .i64 ref)) (go_keep)
      ((first
        | (go_at_call 113
           have N2 := Lib.hid M1.out.drew
           refine (HSP.out _ (N2.out.t.c 1 _ rfl) (N2.out.t.c 3 _ rfl) (N2.out.t.c 4 _ rfl)).mono ?_
           rintro e w3 ⟨rfl, hb3⟩
           have M3 := Lib.hid (N2.out.below hb3)
           have y43 := M3.out.t.c 4 _ rfl
           have y53 := M3.out.t.c 5 _ rfl
           clear hb3)
        | (go_at_call 194
           refine (c_WNote 8 ref v.b v.q v.s (n + 1) M3.out.p M3.out.e.hi (by decide) (by decide)).mono ?_
           rintro e w4 ⟨rfl, G4, e4, P4⟩
           have M4 := Lib.hid (M3.out.world hk e4 P4)
           have y44 := M4.out.t.c 4 _ rfl
           have y54 := M4.out.t.c 5 _ rfl
           clear e4 P4)))
    all_goals
      go_wp2_with fail
      go_end0
      exact M4.out.rp
set_option maxHeartbeats 4000000 in
set_option maxRecDepth 100000 in
theorem c_goes11 {z : Evm} (hP : PW w O B f s) (hX : EvAt w O k X z) (hz : EvOk z) (hl : z.ln = 11) (hk : 10 ≤ k) (hhi : ∀ j, O j ≠ 0 → j < w.heap.size) (n0 : 0 ≤ s.n) (n1 : s.n ≤ 4611686018427387904) :
    Calls Tryz.prog 116 #[.pointer (some ⟨X, 0, none⟩), .pointer (some ⟨B.p, 0, none⟩)] w (EPost w O B f k X (evStep (s, z))) := by
  rw [evStep_11 s z hl]
  obtain ⟨ln, t, h, n, ref, mk, o⟩ := z
  dsimp only at hl
  subst hl
  obtain ⟨all, a, ou, l, hx, hall, ha7, ho7, hl7⟩ := hX.ex
  dsimp only at hall ha7 ho7 hl7 ⊢
  have x0 := hx.c 0 _ rfl
  have p0 := hP.wo.c0
  dsimp only at x0
  have HAL := Lib.hid (hall (by decide))
  unfold EPost
  have hh1 := hz.h1 (.inl (by show (4 : Int) ≤ 11; decide))
  have hh0 := hz.h0
  dsimp only at hh1 hh0
  have HM : Hid (Me k (k + 5) w O w O B f s k X (evCs ⟨11, t, h, n, ref, mk, o⟩ all a ou l)) := Lib.hid (Me.start hhi hP hx)
  obtain ⟨s2, hs2⟩ : ∃ s2, s2 = (if ref = 0 then awNote 8 0 0 0 0 n (awStore 4 h s) else awNote 8 ref (evSpot ⟨11, t, h, n, ref, mk, o⟩).b (evSpot ⟨11, t, h, n, ref, mk, o⟩).q (evSpot ⟨11, t, h, n, ref, mk, o⟩).s (n + 1) (awStore 4 ((h + n + 1) % plSpots t) s)) := ⟨_, rfl⟩
  have HK : Hid (Calls Tryz.prog 196 #[.pointer (some ⟨X, 0, none⟩), .pointer (some ⟨B.p, 0, none⟩)] w (RP (SX k k) w O (.tuple #[]) fun W G => PW W G B f s2 ∧ Ob W G k X (evCs ⟨11, t, h, n, ref, mk, o⟩ all a ou l))) := by
    refine Lib.hid ?_
    by_cases hr : ref = 0
    · rw [if_pos hr] at hs2
      rw [hs2]
      exact c_moves0 ⟨11, t, h, n, ref, mk, o⟩ all a ou l hP hx hr hh0 hh1 hk hhi n0 n1
    · rw [if_neg hr] at hs2
      rw [hs2]
      exact c_moves1 ⟨11, t, h, n, ref, mk, o⟩ all a ou l hP hx (hall (by decide)) hr hz.t0 hz.t1 hh0 hh1 hz.n0 hz.n1 hk hhi n0 n1
  rw [← hs2]
  clear hP hX hx hhi hall ha7 ho7 hl7 hs2 hh1 hh0
  go_enter Tryz.func116, Tryz.ntmps116
  go_wp2_with fail
  refine HK.out.mono ?_
  rintro e w2 ⟨rfl, G2, e2, P2, t2⟩
  have M2 : Hid (Me k (k + 5) w O w2 G2 B f s2 k X (evCs ⟨11, t, h, n, ref, mk, o⟩ all a ou l)) := Lib.hid ⟨HM.out.e.trans (e2.mono fun t _ g => SX.mono (Nat.le_refl _) (by omega) g), P2, t2⟩
  clear HK e2 P2 t2 x0 p0

  have q0 := M2.out.t.c 0 _ rfl
  have f0 := M2.out.t.f 0
  have M3 := Lib.hid (M2.out.set hk (Nat.le_refl _) (by omega) 0 (.int .i64 12) (by simp [evCs]))

  go_wp2_with fail
  go_ret
  exact ⟨rfl, _, M3.out.e, M3.out.p, EvAt.simple all a ou l M3.out.t (fun _ => HAL.out) (fun h => absurd (show (12 : Int) = 7 from h) (by decide)) (fun h => absurd (show (12 : Int) = 8 from h) (by decide)) (fun h => absurd (show (12 : Int) = 9 from h) (by decide))⟩
set_option maxHeartbeats 1000000 in
set_option maxRecDepth 100000 in
/-- Lines 7 to 12. -/
theorem c_EvGoes {z : Evm} (hX : EvAt w O k X z) (hl : 7 ≤ z.ln) (y : AW × Evm) (hg : Calls Tryz.prog 116 #[.pointer (some ⟨X, 0, none⟩), .pointer (some ⟨B.p, 0, none⟩)] w (EPost w O B f k X y)) (hp : w.cell? ⟨B.p, 0, none⟩ = some (.pointer (some ⟨B.c, 0, none⟩))) :
    Calls Tryz.prog 57 #[.pointer (some ⟨X, 0, none⟩), .pointer (some ⟨B.p, 0, none⟩)] w (EPost w O B f k X y) := by
  have x0 := hX.cell0
  obtain ⟨ln, hln⟩ : ∃ ln, ln = z.ln := ⟨_, rfl⟩
  rw [← hln] at x0 hl
  have d0 : (ln == 0) = false := by rw [beq_eq_false_iff_ne]; omega
  have d1 : (ln == 1) = false := by rw [beq_eq_false_iff_ne]; omega
  have d2 : (ln == 2) = false := by rw [beq_eq_false_iff_ne]; omega
  have d3 : (ln == 3) = false := by rw [beq_eq_false_iff_ne]; omega
  have d4 : (ln == 4) = false := by rw [beq_eq_false_iff_ne]; omega
  have d5 : (ln == 5) = false := by rw [beq_eq_false_iff_ne]; omega
  have d6 : (ln == 6) = false := by rw [beq_eq_false_iff_ne]; omega
  have HG := Lib.hid hg
  clear hX hg hln hl
  unfold EPost at HG ⊢
  go_enter Tryz.func57, Tryz.ntmps57
  go_wp2_with fail
  go_step3
  go_wp2_with fail
  refine (c_EvOver x0).mono ?_
  rintro e w' ⟨rfl, rfl⟩
  rw [d0]
  go_wp2_with fail
  refine HG.out.mono ?_
  rintro e w2 ⟨rfl, G2, e2, P2⟩
  have HE := Lib.hid (And.intro e2 P2)
  clear e2 P2 x0
  go_wp2_with fail
  go_ret
  exact ⟨rfl, G2, HE.out⟩
set_option maxHeartbeats 1000000 in
set_option maxRecDepth 100000 in
/-- An Evict that is over. -/
theorem c_EvStep0 {z : Evm} (hX : EvAt w O k X z) (hl : z.ln = 0) :
    Calls Tryz.prog 57 #[.pointer (some ⟨X, 0, none⟩), .pointer (some ⟨B.p, 0, none⟩)] w fun e w' => e = .returned (.bool true) ∧ w = w' := by
  have x0 := hX.cell0
  rw [hl] at x0
  clear hX hl
  go_enter Tryz.func57, Tryz.ntmps57
  go_wp2_with fail
  go_step3
  go_wp2_with fail
  refine (c_EvOver x0).mono ?_
  rintro e w' ⟨rfl, rfl⟩
  go_wp2_with fail
  refine (c_EvOver x0).mono ?_
  rintro e w' ⟨rfl, rfl⟩
  go_wp2_with fail
  rw [Exit.noGoto_ret]
  go_ret
  exact ⟨rfl, rfl⟩
theorem evStep_0 (s : AW) (z : Evm) (h : z.ln = 0) : evStep (s, z) = (s, z) := by
  unfold evStep
  dsimp only
  rw [if_neg (by omega), if_neg (by omega), if_neg (by omega), if_neg (by omega), if_neg (by omega), if_neg (by omega), if_neg (by omega), if_neg (by omega), if_neg (by omega), if_neg (by omega), if_neg (by omega), if_neg (by omega)]
theorem c_EvStep {z : Evm} (hP : PW w O B f s) (hX : EvAt w O k X z) (hz : EvOk z) (hk : 10 ≤ k) (hhi : ∀ j, O j ≠ 0 → j < w.heap.size) (n0 : 0 ≤ s.n) (n1 : s.n ≤ 4611686018427387904) :
    Calls Tryz.prog 57 #[.pointer (some ⟨X, 0, none⟩), .pointer (some ⟨B.p, 0, none⟩)] w (EPost w O B f k X (evStep (s, z))) := by
  have l0 := hz.l0
  have l1 := hz.l1
  by_cases e0 : z.ln = 0
  · rw [evStep_0 s z e0]
    refine (c_EvStep0 hX e0).mono ?_
    rintro e w' ⟨rfl, rfl⟩
    exact ⟨by rw [show evOver z = true by unfold evOver; simp [e0]], O, Ext.refl hhi, hP, hX⟩
  have h : z.ln = 1 ∨ z.ln = 2 ∨ z.ln = 3 ∨ z.ln = 4 ∨ z.ln = 5 ∨ z.ln = 6 ∨ z.ln = 7 ∨ z.ln = 8 ∨ z.ln = 9 ∨ z.ln = 10 ∨ z.ln = 11 ∨ z.ln = 12 := by omega
  rcases h with h | h | h | h | h | h | h | h | h | h | h | h
  · exact c_Ev1 hP hX hz h hk hhi n0 n1
  · exact c_Ev2 hP hX hz h hk hhi n0 n1
  · exact c_Ev3 hP hX hz h hk hhi n0 n1
  · exact c_Ev4 hP hX hz h hk hhi n0 n1
  · exact c_Ev5 hP hX hz h hk hhi n0 n1
  · exact c_Ev6 hP hX hz h hk hhi n0 n1
  · exact c_EvGoes hX (by omega) _ (c_goes7 hP hX hz h hk hhi n0 n1) hP.wo.c0
  · have ho := hz.o8 (.inr h)
    have ho3 : z.o.ln = 0 ∨ z.o.ln = 1 ∨ z.o.ln = 2 := by omega
    rcases ho3 with g | g | g
    · exact c_EvGoes hX (by omega) _ (c_goes8_0 hP hX hz h g hk hhi n0 n1) hP.wo.c0
    · exact c_EvGoes hX (by omega) _ (c_goes8_1 hP hX hz h g hk hhi n0 n1) hP.wo.c0
    · exact c_EvGoes hX (by omega) _ (c_goes8_2 hP hX hz h g hk hhi n0 n1) hP.wo.c0
  · exact c_EvGoes hX (by omega) _ (c_goes9 hP hX hz h hk hhi n0 n1) hP.wo.c0
  · exact c_EvGoes hX (by omega) _ (c_goes10 hP hX hz h hk hhi n0 n1) hP.wo.c0
  · exact c_EvGoes hX (by omega) _ (c_goes11 hP hX hz h hk hhi n0 n1) hP.wo.c0
  · exact c_EvGoes hX (by omega) _ (c_goes12 hP hX hz h hk hhi n0 n1) hP.wo.c0
def spV (p : Spt) : Value := .agg #[.int .i64 p.b, .int .i64 p.q, .int .i64 p.s]
set_option maxHeartbeats 2000000 in
set_option maxRecDepth 100000 in
theorem c_EvGot {z : Evm} (hX : EvAt w O k X z) (hz : EvOk z) :
    Calls Tryz.prog 50 #[.pointer (some ⟨X, 0, none⟩)] w fun e w' => e = .returned (.tuple #[.int .i64 (evGot z).1, spV (evGot z).2]) ∧ Below w.heap.size w w' := by
  obtain ⟨all, a, ou, l, hx, -⟩ := hX.ex
  have x0 := hx.c 0 _ rfl
  have x1 := hx.c 1 _ rfl
  have x3 := hx.c 3 _ rfl
  have x4 := hx.c 4 _ rfl
  have x5 := hx.c 5 _ rfl
  have hl := hx.lt
  have hw1 := hz.h1
  obtain ⟨l0, l1, t0, t1, h0, -, m0, m1, -, -, -, -, -, -, -, -⟩ := hz
  obtain ⟨ln, t, h, n, ref, mk, o⟩ := z
  dsimp only at x0 x1 x3 x4 x5 l0 l1 t0 t1 h0 m0 m1 hw1
  clear hX hx
  by_cases e0 : ln = 0
  · subst e0
    by_cases er : ref = 0
    · subst er
      have hg : evGot ⟨0, t, h, n, 0, mk, o⟩ = (0, ⟨0, 0, 0⟩) := by unfold evGot; rw [if_neg (by simp)]
      rw [hg]
      dsimp only [spV]
      clear hg hw1
      go_enter Tryz.func50, Tryz.ntmps50
      go_wp2_with fail
      exact bodyPost_ret (v := .tuple #[.int .i64 0, .agg #[.int .i64 0, .int .i64 0, .int .i64 0]]) (by simp [results, Tryz.results50, go_sem]) rfl ⟨rfl, by first | exact (Below.refl _ _).alloc (Nat.le_refl _) _ | exact ((((Below.refl _ _).alloc (Nat.le_refl _) _).setCell (p := ⟨w.heap.size, 0, none⟩) (Nat.le_refl _) _).setCell (p := ⟨w.heap.size, 1, none⟩) (Nat.le_refl _) _).setCell (p := ⟨w.heap.size, 2, none⟩) (Nat.le_refl _) _⟩
    · have hg : evGot ⟨0, t, h, n, ref, mk, o⟩ = (ref, plAt t (h + n)) := by unfold evGot; rw [if_pos ⟨rfl, er⟩]; rfl
      rw [hg]
      dsimp only
      have dr : (ref == 0) = false := by simp [er]
      have h1 := hw1 (.inr rfl)
      have HSP := Lib.hid (fun (W : World) (g1 : W.cell? ⟨X, 1, none⟩ = some (.int .u64 t)) (g3 : W.cell? ⟨X, 3, none⟩ = some (.int .i64 h)) (g4 : W.cell? ⟨X, 4, none⟩ = some (.int .i64 n)) => c_EvSpot t h n g1 g3 g4 t0 t1 h0 h1 m0 m1)
      obtain ⟨v, hv⟩ : ∃ v, v = plAt t (h + n) := ⟨_, rfl⟩
      rw [← hv] at HSP ⊢
      unfold spV
      clear hg hw1 er hv
      have hB : ∀ o, Below w.heap.size w (w.alloc o) := fun o => (Below.refl _ _).alloc (Nat.le_refl _) o
      have HB := Lib.hid hB
      have hne : ¬ X = w.heap.size := by omega
      have hne2 : ¬ w.heap.size = X := by omega
      clear hB
      go_enter Tryz.func50, Tryz.ntmps50
      go_wp2_with fail
      obtain ⟨W, hW⟩ : ∃ W, W = w.alloc (.cells #[.int .i64 0, .int .i64 0, .int .i64 0] 56) := ⟨_, rfl⟩
      have hB : Below w.heap.size w W := by rw [hW]; exact HB.out _
      have y1 := (hB.cell (p := ⟨X, 1, none⟩) hl).trans x1
      have y3 := (hB.cell (p := ⟨X, 3, none⟩) hl).trans x3
      have y4 := (hB.cell (p := ⟨X, 4, none⟩) hl).trans x4
      have y5 := (hB.cell (p := ⟨X, 5, none⟩) hl).trans x5
      have hlW : X < W.heap.size := Nat.lt_of_lt_of_le hl hB.size
      have hwl : w.heap.size < W.heap.size := by rw [hW]; simp
      have z0 : W.cell? ⟨w.heap.size, 0, none⟩ = some (.int .i64 0) := by rw [hW]; simp
      have z1 : W.cell? ⟨w.heap.size, 1, none⟩ = some (.int .i64 0) := by rw [hW]; simp
      have z2 : W.cell? ⟨w.heap.size, 2, none⟩ = some (.int .i64 0) := by rw [hW]; simp
      have zf : ∀ j, W.frozen? ⟨w.heap.size, j, none⟩ = false := fun j => by rw [hW]; exact frozen_newA w #[.int .i64 0, .int .i64 0, .int .i64 0] _ _ rfl j
      have HZ := Lib.hid (And.intro z0 (And.intro z1 (And.intro z2 zf)))
      have HBW := Lib.hid hB
      try rw [← hW]
      clear hW hB z0 z1 z2 zf
      go_region_held3 (fun w' => w'.cell? ⟨X, 5, none⟩ = some (.int .i64 ref)) (go_keep)
        ((go_at_call 113
          refine (HSP.out _ (by first | exact y1 | exact x1) (by first | exact y3 | exact x3) (by first | exact y4 | exact x4)).mono ?_
          rintro e w1 ⟨rfl, hb1⟩
          have x51 := (hb1.cell (p := ⟨X, 5, none⟩) hlW).trans y5
          have z0 := (hb1.cell (p := ⟨w.heap.size, 0, none⟩) hwl).trans HZ.out.1
          have z1 := (hb1.cell (p := ⟨w.heap.size, 1, none⟩) hwl).trans HZ.out.2.1
          have z2 := (hb1.cell (p := ⟨w.heap.size, 2, none⟩) hwl).trans HZ.out.2.2.1
          have zf0 := (hb1.frozen (p := ⟨w.heap.size, 0, none⟩) hwl).trans (HZ.out.2.2.2 0)
          have zf1 := (hb1.frozen (p := ⟨w.heap.size, 1, none⟩) hwl).trans (HZ.out.2.2.2 1)
          have zf2 := (hb1.frozen (p := ⟨w.heap.size, 2, none⟩) hwl).trans (HZ.out.2.2.2 2)
          have zl : w.heap.size < w1.heap.size := Nat.lt_of_lt_of_le hwl hb1.size
          have HB1 := Lib.hid (HBW.out.drew.trans (hb1.mono (by simp; omega)))
          clear hb1))
      all_goals
        go_wp2_with fail
        exact bodyPost_ret (v := .tuple #[.int .i64 ref, .agg #[.int .i64 v.b, .int .i64 v.q, .int .i64 v.s]]) (by simp [results, Tryz.results50, go_sem, *]) rfl ⟨rfl, ((HB1.out.setCell (p := ⟨w.heap.size, 0, none⟩) (Nat.le_refl _) _).setCell (p := ⟨w.heap.size, 1, none⟩) (Nat.le_refl _) _).setCell (p := ⟨w.heap.size, 2, none⟩) (Nat.le_refl _) _⟩
  · have hg : evGot ⟨ln, t, h, n, ref, mk, o⟩ = (0, ⟨0, 0, 0⟩) := by unfold evGot; rw [if_neg (by intro g; exact e0 g.1)]
    rw [hg]
    dsimp only [spV]
    have d0 : (ln != 0) = true := by simp [e0]
    clear hg hw1 e0
    go_enter Tryz.func50, Tryz.ntmps50
    go_wp2_with fail
    exact bodyPost_ret (v := .tuple #[.int .i64 0, .agg #[.int .i64 0, .int .i64 0, .int .i64 0]]) (by simp [results, Tryz.results50, go_sem]) rfl ⟨rfl, by first | exact (Below.refl _ _).alloc (Nat.le_refl _) _ | exact ((((Below.refl _ _).alloc (Nat.le_refl _) _).setCell (p := ⟨w.heap.size, 0, none⟩) (Nat.le_refl _) _).setCell (p := ⟨w.heap.size, 1, none⟩) (Nat.le_refl _) _).setCell (p := ⟨w.heap.size, 2, none⟩) (Nat.le_refl _) _⟩
end
end
end Go.Proofs.YtkpkhibknaoboaaGreat
