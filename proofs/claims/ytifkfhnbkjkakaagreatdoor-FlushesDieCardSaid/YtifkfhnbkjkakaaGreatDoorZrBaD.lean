/- Layer 2, plain: four tags in one word; what the program's masks come to. Layers 12, 13, 23, plain: what a Mark, an Out, a Put and an Evict compute on a world. Contracts that other seats of ours hold too (taken by sub.py). Contracts that other seats of ours hold too (taken by sub.py). Contracts that other seats of ours hold too (taken by sub.py). Contracts that other seats of ours hold too (taken by sub.py). A row of an owner, and what is appended to it. -/
import Derived.Test.YtifkfhnbkjkakaaGreatDoorZrBaA
import Derived.Test.YtifkfhnbkjkakaaGreatDoorZrBaC
import Derived.Test.YtifkfhnbkjkakaaGreatDoorZrBaB
import Derived.Deep.AppendLies
import Derived.Deep.RegionHeld3
import Derived.Deep.RegionWith
import Derived.Laws.AppendOwnNone
import Derived.Laws.BitsAllLaws
import Derived.Test.YtifkfhnbkjkakaaGreatDoorRows
namespace Go.Proofs.YtifkfhnbkjkakaaGreatDoor
set_option linter.unusedSimpArgs false
set_option linter.unusedVariables false
section
open Go.RowKit
def twUnit (s : Int) : Int := if s = 0 then 1 else if s = 1 then 256 else if s = 2 then 65536 else 16777216
def twTag (w s : Int) : Int := if 0 ≤ s ∧ s ≤ 3 then w / twUnit s % 256 else 0
def twWith (w s t : Int) : Int := if 0 ≤ s ∧ s ≤ 3 ∧ 0 ≤ t ∧ t ≤ 255 then w - twTag w s * twUnit s + t * twUnit s else w
def twFree (w : Int) : Int := if twTag w 0 = 0 then 0 else if twTag w 1 = 0 then 1 else if twTag w 2 = 0 then 2 else if twTag w 3 = 0 then 3 else -1
theorem twFree_bd (w : Int) : -1 ≤ twFree w ∧ twFree w ≤ 3 := by
 unfold twFree; repeat' split
 all_goals omega
theorem twU0 : twUnit 0 = 1 := rfl
theorem twU1 : twUnit 1 = 256 := rfl
theorem twU2 : twUnit 2 = 65536 := rfl
theorem twU3 : twUnit 3 = 16777216 := rfl
theorem twTag0 (w : Int) : twTag w 0 = w % 256 := by simp [twTag, twUnit]
theorem twTag1 (w : Int) : twTag w 1 = w / 256 % 256 := by simp [twTag, twUnit]
theorem twTag2 (w : Int) : twTag w 2 = w / 65536 % 256 := by simp [twTag, twUnit]
theorem twTag3 (w : Int) : twTag w 3 = w / 16777216 % 256 := by simp [twTag, twUnit]
theorem twWith_bd {w s t : Int} (h0 : 0 ≤ w) (h1 : w < 18446744073709551616) : 0 ≤ twWith w s t ∧ twWith w s t < 18446744073709551616 := by
 unfold twWith
 split
 · rename_i h
   have hs : s = 0 ∨ s = 1 ∨ s = 2 ∨ s = 3 := by omega
   rcases hs with rfl | rfl | rfl | rfl
   · rw [twTag0, twU0]; omega
   · rw [twTag1, twU1]; omega
   · rw [twTag2, twU2]; omega
   · rw [twTag3, twU3]; omega
 · exact ⟨h0, h1⟩
theorem mask_byte (a k : Nat) (hk : k ≤ 24) (ha : a < 18446744073709551616) : a &&& (18446744073709551615 - 255 * 2 ^ k) = 2 ^ (k + 8) * (a / 2 ^ (k + 8)) + a % 2 ^ k := by
 have h255 : 255 * 2 ^ k < 2 ^ 64 := by
  have : 2 ^ k ≤ 2 ^ 24 := Nat.pow_le_pow_right (by decide) hk
  omega
 have e : 18446744073709551615 - 255 * 2 ^ k = 2 ^ 64 - (255 * 2 ^ k + 1) := by omega
 have hl : a % 2 ^ k < 2 ^ (k + 8) := Nat.lt_of_lt_of_le (Nat.mod_lt _ (Nat.two_pow_pos k)) (Nat.pow_le_pow_right (by decide) (by omega))
 refine Nat.eq_of_testBit_eq fun i => ?_
 rw [Nat.testBit_and, e, Nat.testBit_two_pow_sub_succ h255, Nat.testBit_two_pow_mul_add _ hl, Nat.testBit_mul_two_pow, show (255 : Nat) = 2 ^ 8 - 1 by rfl, Nat.testBit_two_pow_sub_one, Nat.testBit_mod_two_pow, Nat.testBit_div_two_pow]
 by_cases h1 : i < k
 · have h2 : i < k + 8 := by omega
   have h3 : i < 64 := by omega
   simp [h1, h2, h3]
 · by_cases h2 : i < k + 8
   · have h4 : i - k < 8 := by omega
     have h5 : k ≤ i := by omega
     simp [h1, h2, h4, h5]
   · have h4 : ¬ i - k < 8 := by omega
     have h5 : i - (k + 8) + (k + 8) = i := by omega
     by_cases h3 : i < 64
     · simp [h1, h2, h3, h4, h5]
     · have h6 : a.testBit i = false := Nat.testBit_lt_two_pow (Nat.lt_of_lt_of_le ha (by rw [show 18446744073709551616 = 2 ^ 64 by rfl]; exact Nat.pow_le_pow_right (by decide) (by omega)))
       simp [h1, h2, h3, h4, h5, h6]
theorem or_byte (a k t : Nat) (ht : t < 256) : (2 ^ (k + 8) * (a / 2 ^ (k + 8)) + a % 2 ^ k) ||| (t * 2 ^ k) = 2 ^ (k + 8) * (a / 2 ^ (k + 8)) + (2 ^ k * t + a % 2 ^ k) := by
 have hm : a % 2 ^ k < 2 ^ k := Nat.mod_lt _ (Nat.two_pow_pos k)
 have hl : a % 2 ^ k < 2 ^ (k + 8) := Nat.lt_of_lt_of_le hm (Nat.pow_le_pow_right (by decide) (by omega))
 have hl2 : 2 ^ k * t + a % 2 ^ k < 2 ^ (k + 8) := by
  have : 2 ^ k * t ≤ 2 ^ k * 255 := Nat.mul_le_mul_left _ (by omega)
  have e : 2 ^ (k + 8) = 2 ^ k * 256 := by rw [Nat.pow_add]
  omega
 refine Nat.eq_of_testBit_eq fun i => ?_
 rw [Nat.testBit_or, Nat.testBit_two_pow_mul_add _ hl, Nat.testBit_two_pow_mul_add _ hl2, Nat.testBit_two_pow_mul_add _ hm, Nat.testBit_mul_two_pow]
 by_cases h1 : i < k
 · have h2 : i < k + 8 := by omega
   have h3 : ¬ k ≤ i := by omega
   simp [h1, h2, h3]
 · have h3 : k ≤ i := by omega
   by_cases h2 : i < k + 8
   · have h4 : (a % 2 ^ k).testBit i = false := Nat.testBit_lt_two_pow (Nat.lt_of_lt_of_le hm (Nat.pow_le_pow_right (by decide) h3))
     simp [h1, h2, h3, h4]
   · have h4 : t.testBit (i - k) = false := Nat.testBit_lt_two_pow (Nat.lt_of_lt_of_le ht (by rw [show 256 = 2 ^ 8 by rfl]; exact Nat.pow_le_pow_right (by decide) (by omega)))
     simp [h1, h2, h3, h4]
theorem put_byte (a k t : Nat) (hk : k ≤ 24) (ha : a < 18446744073709551616) (ht : t < 256) : (a &&& (18446744073709551615 - 255 * 2 ^ k)) ||| (t * 2 ^ k) = a - a / 2 ^ k % 256 * 2 ^ k + t * 2 ^ k := by
 rw [mask_byte a k hk ha, or_byte a k t ht]
 have e : 2 ^ (k + 8) = 256 * 2 ^ k := by rw [Nat.pow_add, Nat.mul_comm]
 have h1 : a / 2 ^ (k + 8) = a / 2 ^ k / 256 := by rw [e, Nat.mul_comm, Nat.div_div_eq_div_mul]
 rw [h1, e]
 have h2 := Nat.div_add_mod a (2 ^ k)
 obtain ⟨u, hu⟩ : ∃ u, u = 2 ^ k := ⟨_, rfl⟩
 rw [← hu] at h2 ⊢
 obtain ⟨q, hq⟩ : ∃ q, q = a / u := ⟨_, rfl⟩
 rw [← hq] at h2 ⊢
 have h3 := Nat.div_add_mod q 256
 obtain ⟨r, hr⟩ : ∃ r, r = q / 256 := ⟨_, rfl⟩
 obtain ⟨m, hm⟩ : ∃ m, m = q % 256 := ⟨_, rfl⟩
 rw [← hr, ← hm] at h3
 rw [← hr, ← hm]
 have h4 : a = 256 * u * r + (m * u + a % u) := by
  rw [← h2, ← h3]
  have : (u * (256 * r + m) + a % u) % u = a % u := by rw [Nat.mul_add_mod]; exact Nat.mod_mod _ _
  rw [h3, h2]
  rw [← h3] at h2
  rw [Nat.mul_add, Nat.mul_comm u m, ← Nat.mul_assoc, Nat.mul_comm u 256] at h2
  omega
 rw [Nat.mul_comm u t]
 omega
theorem with_bits (x t : Int) (k : Nat) (hk : k ≤ 24) (x0 : 0 ≤ x) (x1 : x < 18446744073709551616) (t0 : 0 ≤ t) (t1 : t ≤ 255) :
 bits .or .u64 (bits .andNot .u64 x ((255 * 2 ^ k : Nat) : Int)) (t * ((2 ^ k : Nat) : Int)) = x - x / ((2 ^ k : Nat) : Int) % 256 * ((2 ^ k : Nat) : Int) + t * ((2 ^ k : Nat) : Int) := by
 obtain ⟨a, rfl⟩ := Int.eq_ofNat_of_zero_le x0
 obtain ⟨b, rfl⟩ := Int.eq_ofNat_of_zero_le t0
 have hp : 2 ^ k ≤ 2 ^ 24 := Nat.pow_le_pow_right (by decide) hk
 have hb : b * 2 ^ k ≤ 255 * 2 ^ k := Nat.mul_le_mul_right _ (by omega)
 rw [u64_andNot_nat a (255 * 2 ^ k) (by omega) (by omega)]
 rw [show ((b : Int) * ((2 ^ k : Nat) : Int)) = ((b * 2 ^ k : Nat) : Int) by rw [Int.natCast_mul]]
 rw [u64_or_nat _ _ (Nat.lt_of_le_of_lt Nat.and_le_left (by omega)) (by omega)]
 rw [put_byte a k b hk (by omega) (by omega)]
 have hle : a / 2 ^ k % 256 * 2 ^ k ≤ a := by
  refine Nat.le_trans (Nat.mul_le_mul_right _ (Nat.mod_le _ _)) (Nat.div_mul_le_self _ _)
 rw [Int.natCast_add, Int.natCast_sub hle, Int.natCast_mul, Int.natCast_emod, Int.natCast_ediv]
 rfl
end
section
open Go.RowKit
def awAdd (a v : Int) (s : AW) : AW := ⟨upd s.M a ((s.M a + v) % 18446744073709551616), s.n + 1, ⟨4, a, s.M a, (s.M a + v) % 18446744073709551616⟩, s.tk, s.ho, s.it, s.nt⟩
structure Otm where
 ln : Nat
 w : Int
structure Spt where
 b : Int
 q : Int
 s : Int
structure Spt.ok (p : Spt) : Prop where
 b0 : 1 ≤ p.b
 b1 : p.b ≤ 12
 q0 : 0 ≤ p.q
 q1 : p.q < fnvSize p.b
 s0 : 0 ≤ p.s
 s1 : p.s ≤ 3
def Spt.tags (p : Spt) : Int := plTags p.b p.q
def Spt.item (p : Spt) : Int := plItem p.b p.q p.s
def Spt.ver (p : Spt) : Int := plVersion p.b p.q
theorem Spt.ok.q2 {p : Spt} (h : p.ok) : p.q < 4096 := by have := fnvSize_bd p.b; have := h.q1; omega
theorem Spt.ok.tags {p : Spt} (h : p.ok) : 4096 ≤ p.tags ∧ p.tags < 4294967296 ∧ p.tags = 4096 + 8 * (fnvSize p.b + p.q) := by
 have h1 := fnvSize_bd p.b
 have h2 := h.q0
 have h3 := h.q1
 unfold Spt.tags
 rw [plTags_in ⟨h2, h3⟩]
 omega
theorem Spt.ok.item {p : Spt} (h : p.ok) : 4096 ≤ p.item ∧ p.item < 4294967296 ∧ p.item = p.tags + 1 + p.s := by
 have h1 := h.tags
 have h2 := h.s0
 have h3 := h.s1
 unfold Spt.item
 rw [plItem_in ⟨h.q0, h.q1⟩ ⟨h2, h3⟩]
 have e : plTags p.b p.q = p.tags := rfl
 rw [e]
 have := fnvSize_bd p.b
 have := h.q1
 omega
theorem Spt.ok.ver {p : Spt} (h : p.ok) : 64 ≤ p.ver ∧ p.ver < 128 := by
 unfold Spt.ver plVersion
 rw [if_pos ⟨h.q0, h.q1⟩]
 omega
def otOver (o : Otm) : Bool := decide (3 ≤ o.ln)
def outStep (p : Spt) (s : AW) (o : Otm) : AW × Otm :=
 if o.ln = 0 then (awLoad p.tags s, ⟨1, s.M p.tags⟩)
 else if o.ln = 1 then (awStore p.tags (twWith o.w p.s 0) s, ⟨2, o.w⟩)
 else if o.ln = 2 then (awStore p.item 0 s, ⟨3, o.w⟩)
 else (s, o)
def putStep (p : Spt) (tag ref : Int) (s : AW) (o : Otm) : AW × Otm :=
 if o.ln = 0 then (awStore p.item ref s, ⟨1, o.w⟩)
 else if o.ln = 1 then (awLoad p.tags s, ⟨2, s.M p.tags⟩)
 else if o.ln = 2 then (awStore p.tags (twWith o.w p.s tag) s, ⟨3, o.w⟩)
 else (s, o)
def i64 (x : Int) : Int := wrap64 x
end
section
open Go.RowKit
def plc (p : Int × Int) : List Value := [.int .i64 p.1, .int .i64 p.2]
theorem plc_len (p : Int × Int) : (plc p).length = 2 := rfl
theorem plc_cells {l : List (Int × Int)} {w : World} {b o : Nat} (h : ∀ j u, (rowOf plc l)[j]? = some u → w.cell? ⟨b, o + j, none⟩ = some u) (i : Nat) (hi : i < l.length) :
 w.cell? ⟨b, o + i * 2, none⟩ = some (.int .i64 l[i].1) ∧ w.cell? ⟨b, o + i * 2 + 1, none⟩ = some (.int .i64 l[i].2) :=
 ⟨h _ _ (rowOf_get plc_len l i 0 hi (by omega)), h _ _ (rowOf_get plc_len l i 1 hi (by omega))⟩
theorem no_more {l : List (Int × Int)} {p q : Int × Int} {k : Nat} {hk : k < l.length} (hq : q = l[k]) (hno : ∀ j, (hj : j < l.length) → j < k → l[j] ≠ p) (h : ¬ q = p) : ∀ j, (hj : j < l.length) → j < k + 1 → l[j] ≠ p := by
 intro j hj hjk
 rcases Nat.lt_or_ge j k with h' | h'
 · exact hno j hj h'
 · obtain rfl : j = k := by omega
   rw [← hq]; exact h
def plAdd (out : List (Int × Int)) (p : Int × Int) : List (Int × Int) := if p ∈ out then out else out ++ [p]
def plOnce (l : List (Int × Int)) : List (Int × Int) := l.foldl plAdd []
theorem plOnce_snoc (l : List (Int × Int)) (p : Int × Int) : plOnce (l ++ [p]) = plAdd (plOnce l) p := by simp [plOnce]
theorem plOnce_len (l : List (Int × Int)) : (plOnce l).length ≤ l.length := by
 suffices ∀ out, (l.foldl plAdd out).length ≤ out.length + l.length by simpa [plOnce] using this []
 induction l with
 | nil => intro out; simp
 | cons a l ih =>
   intro out
   have := ih (plAdd out a)
   have h2 : (plAdd out a).length ≤ out.length + 1 := by unfold plAdd; split <;> simp
   simp only [List.foldl_cons, List.length_cons]
   omega
def plPair (h b : Int) : List (Int × Int) := if 1 ≤ b ∧ b ≤ 12 then [(b, fnvBucket h b), (b, fnvOther (fnvBucket h b) (fnvTag h) b)] else []
theorem plPair_in {h b : Int} (h1 : 1 ≤ b) (h2 : b ≤ 12) : plPair h b = [(b, fnvBucket h b), (b, fnvOther (fnvBucket h b) (fnvTag h) b)] := by unfold plPair; rw [if_pos ⟨h1, h2⟩]
theorem plPair_out {h b : Int} (h1 : b < 1 ∨ 12 < b) : plPair h b = [] := by unfold plPair; rw [if_neg (by omega)]
def plPlaces (h w : Int) : List (Int × Int) := plOnce (plPair h (plOld w) ++ plPair h (plNow w))
theorem infoPl : (Tryz.prog.info? 73).map (fun i => (i.zero, i.size, i.bytes)) = some (some (.agg #[.int .i64 0, .int .i64 0]), 2, 16) := by kernel_rfl
theorem plc_one (l : List (Int × Int)) : ∀ u ∈ rowOf plc l, u.oneCell' = true := by
 intro u hu
 obtain ⟨p, _, hp⟩ := List.mem_flatMap.1 hu
 simp [plc] at hp
 rcases hp with rfl | rfl <;> rfl
end
section
open Go.RowKit
theorem below_drewN {B : Nat} {a w : World} (h : Below B a w) (n : Nat) : Below B a (w.drewN n) := ⟨h.os, h.tape, h.output, h.size, h.block⟩
theorem infoInt : (Tryz.prog.info? 3).map (fun i => (i.zero, i.size, i.bytes)) = some (some (.int .i64 0), 1, 8) := by kernel_rfl
end
section
open Go.RowKit
theorem plPlaces_le (h x : Int) : (plPlaces h x).length ≤ 4 := by
 unfold plPlaces
 refine Nat.le_trans (plOnce_len _) ?_
 have : ∀ b, (plPair h b).length ≤ 2 := by intro b; unfold plPair; split <;> simp
 have h1 := this (plOld x)
 have h2 := this (plNow x)
 rw [List.length_append]
 omega
theorem plOnce_mem (l : List (Int × Int)) (p : Int × Int) : p ∈ plOnce l ↔ p ∈ l := by
 suffices ∀ out, p ∈ l.foldl plAdd out ↔ p ∈ out ∨ p ∈ l by simpa [plOnce] using this []
 induction l with
 | nil => intro out; simp
 | cons a l ih =>
   intro out
   rw [List.foldl_cons, ih]
   unfold plAdd
   split
   · rename_i h
     constructor
     · rintro (h1 | h1)
       · exact .inl h1
       · exact .inr (List.mem_cons_of_mem _ h1)
     · rintro (h1 | h1)
       · exact .inl h1
       · rcases List.mem_cons.1 h1 with rfl | h2
         · exact .inl h
         · exact .inr h2
   · simp only [List.mem_append, List.mem_singleton, List.mem_cons, List.not_mem_nil, or_assoc, false_or]
theorem plPlaces_bd {h x : Int} (h0 : 0 ≤ h) (h1 : h < 18446744073709551616) {p : Int × Int} (hp : p ∈ plPlaces h x) : 1 ≤ p.1 ∧ p.1 ≤ 12 ∧ 0 ≤ p.2 ∧ p.2 < fnvSize p.1 := by
 have ht := fnvTag_bd h h0 h1
 have hq : ∀ b, p ∈ plPair h b → 1 ≤ p.1 ∧ p.1 ≤ 12 ∧ 0 ≤ p.2 ∧ p.2 < fnvSize p.1 := by
  intro b hb
  by_cases hc : 1 ≤ b ∧ b ≤ 12
  · have hk := fnvBucket_bd (h := h) hc.1 hc.2
    rw [plPair_in hc.1 hc.2] at hb
    simp only [List.mem_cons, List.not_mem_nil, or_false] at hb
    rcases hb with rfl | rfl
    · exact ⟨hc.1, hc.2, hk.1, hk.2⟩
    · have := fnvOther_bd (k := fnvBucket h b) (t := fnvTag h) (b := b) ⟨hk.1, hk.2, ht.1, ht.2⟩
      exact ⟨hc.1, hc.2, this.1, this.2⟩
  · rw [plPair_out (by omega)] at hb; cases hb
 unfold plPlaces at hp
 rw [plOnce_mem, List.mem_append] at hp
 rcases hp with hp | hp
 · exact hq _ hp
 · exact hq _ hp
end
section
open Go.RowKit
theorem c_Stripe (b k : Int) (w : World) (k0 : -9223372036854775808 ≤ k) (k1 : k ≤ 9223372036854775807) (b0 : -9223372036854775808 ≤ b) (b1 : b ≤ 9223372036854775807) :
 Calls Tryz.prog 280 #[.agg #[.int .i64 b, .int .i64 k]] w fun e w' => e = .returned (.int .i64 (fnvStripe b k)) ∧ Below w.heap.size w w' := by
 have hs := fnvSize_bd b
 by_cases c : 0 ≤ k ∧ k < fnvSize b
 · have hb := (fnvSize_iff b).1 (by omega)
   have Hm := Lib.hid (show fnvStripe b k = (k + 31 * b) % 64 from by unfold fnvStripe; rw [if_pos c])
   obtain ⟨c1, c2⟩ := c
   obtain ⟨hb1, hb2⟩ := hb
   have d1 : decide (k < 0) = false := by simp; omega
   have d2 : decide (fnvSize b ≤ k) = false := by simp; omega
   rw [Hm.out]
   go_enter Tryz.func280, Tryz.ntmps280
   go_wp2
   go_quiet ((go_at_call 205; exact quietS (c_Size _ _ b0 b1)))
   go_wp2
   go_ret
   exact ⟨rfl, below_drewN ((Below.refl _ _).alloc (Nat.le_refl _) _) _⟩
 · have Hm := Lib.hid (show fnvStripe b k = -1 from by unfold fnvStripe; rw [if_neg c])
   by_cases c1 : k < 0
   · have d1 : decide (k < 0) = true := by simp; omega
     clear c
     rw [Hm.out]
     go_enter Tryz.func280, Tryz.ntmps280
     go_wp2
     go_quiet ((go_at_call 205; exact quietS (c_Size _ _ b0 b1)))
     go_wp2
     go_ret
     exact ⟨rfl, below_drewN ((Below.refl _ _).alloc (Nat.le_refl _) _) _⟩
   · have d1 : decide (k < 0) = false := by simp; omega
     have d2 : decide (fnvSize b ≤ k) = true := by simp; omega
     clear c
     rw [Hm.out]
     go_enter Tryz.func280, Tryz.ntmps280
     go_wp2
     go_quiet ((go_at_call 205; exact quietS (c_Size _ _ b0 b1)))
     go_wp2
     go_ret
     exact ⟨rfl, below_drewN ((Below.refl _ _).alloc (Nat.le_refl _) _) _⟩
/-! ### the hash, with its closure -/
theorem c_Target (x : Int) (w : World) (x0 : 0 ≤ x) (x1 : x < 18446744073709551616) :
 Calls Tryz.prog 268 #[.int .u64 x] w fun e w' => e = .returned (.int .i64 (plTarget x)) ∧ w = w' := by
 have ho := plOld_bd x
 have hn := plNow_bd x
 rcases plNow_cases x with c | c
 · have Ht := Lib.hid (show plTarget x = plOld x by unfold plTarget; rw [if_pos c])
   have c' : plNow x < plOld x := by omega
   rw [Ht.out]
   clear c
   go_enter Tryz.func268, Tryz.ntmps268
   go_wp2_with (go_at_call 149; refine (c_As _ _ x0 x1).mono ?_; rintro e w' ⟨rfl, rfl⟩)
   all_goals (go_ret; exact ⟨rfl, rfl⟩)
 · have Ht := Lib.hid (show plTarget x = plNow x by unfold plTarget; rw [if_neg (by omega)])
   have c' : plOld x < plNow x := by omega
   rw [Ht.out]
   clear c
   go_enter Tryz.func268, Tryz.ntmps268
   go_wp2_with (go_at_call 149; refine (c_As _ _ x0 x1).mono ?_; rintro e w' ⟨rfl, rfl⟩)
   all_goals (go_ret; exact ⟨rfl, rfl⟩)
theorem c_Version (b k : Int) (w : World) (b0 : -9223372036854775808 ≤ b) (b1 : b ≤ 9223372036854775807) (k0 : -9223372036854775808 ≤ k) (k1 : k ≤ 9223372036854775807) :
 Calls Tryz.prog 249 #[.agg #[.int .i64 b, .int .i64 k]] w fun e w' => e = .returned (.int .u64 (plVersion b k)) ∧ Below w.heap.size w w' := by
 have hs := fnvSize_bd b
 by_cases c : 0 ≤ k ∧ k < fnvSize b
 · have Ht := Lib.hid (plVersion_in c)
   have d := decide_eq_true c
   have hst : 0 ≤ fnvStripe b k ∧ fnvStripe b k < 64 := by unfold fnvStripe; rw [if_pos c]; omega
   rw [Ht.out]
   obtain ⟨ca, cb⟩ := c
   go_enter Tryz.func249, Tryz.ntmps249
   go_wp2_with fail
   refine (c_there _ _ _ b0 b1 k0 k1).mono ?_
   rintro e w' ⟨rfl, hb⟩
   have q0 : w'.cell? ⟨w.heap.size, 0, none⟩ = some (.int .i64 b) := by rw [hb.cell (p := ⟨w.heap.size, 0, none⟩) (by simp)]; simp
   have q1 : w'.cell? ⟨w.heap.size, 1, none⟩ = some (.int .i64 k) := by rw [hb.cell (p := ⟨w.heap.size, 1, none⟩) (by simp)]; simp
   go_wp2_with (go_at_call 280; refine (c_Stripe _ _ _ k0 k1 b0 b1).mono ?_; rintro e w'' ⟨rfl, hb'⟩)
   go_ret
   exact ⟨rfl, (((Below.refl _ _).alloc (Nat.le_refl _) _).trans (hb.mono (by simp))).trans (hb'.mono (Nat.le_trans (by simp) hb.size))⟩
 · have d := decide_eq_false c
   rw [plVersion_out c]
   clear c
   go_enter Tryz.func249, Tryz.ntmps249
   go_wp2_with (go_at_call 213; refine (c_there _ _ _ b0 b1 k0 k1).mono ?_; rintro e w' ⟨rfl, hb⟩)
   go_ret
   exact ⟨rfl, ((Below.refl _ _).alloc (Nat.le_refl _) _).trans (hb.mono (by simp))⟩
theorem c_Item (b k s : Int) (w : World) (b0 : -9223372036854775808 ≤ b) (b1 : b ≤ 9223372036854775807) (k0 : -9223372036854775808 ≤ k) (k1 : k ≤ 9223372036854775807) (s0 : -9223372036854775808 ≤ s) (s1 : s ≤ 9223372036854775807) :
 Calls Tryz.prog 154 #[.agg #[.int .i64 b, .int .i64 k, .int .i64 s]] w fun e w' => e = .returned (.int .u64 (plItem b k s)) ∧ Below w.heap.size w w' := by
 have hs := fnvSize_bd b
 by_cases c : 0 ≤ k ∧ k < fnvSize b
 · have d := decide_eq_true c
   by_cases c2 : 0 ≤ s ∧ s ≤ 3
   · have Ht := Lib.hid (plItem_in c c2)
     have hT : 0 ≤ plTags b k ∧ plTags b k ≤ 1000000 := by rw [plTags_in c]; omega
     obtain ⟨ca, cb⟩ := c2
     have d1 : decide (s < 0) = false := by simp; omega
     have d2 : decide (4 ≤ s) = false := by simp; omega
     rw [Ht.out]
     clear c
     go_enter Tryz.func154, Tryz.ntmps154
     go_wp2_with fail
     refine (c_there _ _ _ b0 b1 k0 k1).mono ?_
     rintro e w' ⟨rfl, hb⟩
     have q0 : w'.cell? ⟨w.heap.size, 0, none⟩ = some (.int .i64 b) := by rw [hb.cell (p := ⟨w.heap.size, 0, none⟩) (by simp)]; simp
     have q1 : w'.cell? ⟨w.heap.size, 1, none⟩ = some (.int .i64 k) := by rw [hb.cell (p := ⟨w.heap.size, 1, none⟩) (by simp)]; simp
     have q2 : w'.cell? ⟨w.heap.size, 2, none⟩ = some (.int .i64 s) := by rw [hb.cell (p := ⟨w.heap.size, 2, none⟩) (by simp)]; simp
     have hB : Below w.heap.size w w' := ((Below.refl _ _).alloc (Nat.le_refl _) _).trans (hb.mono (by simp))
     have hz : w.heap.size < w'.heap.size := Nat.lt_of_lt_of_le (by simp) hb.size
     clear hb
     go_wp2_with fail
     refine wp_region_via (by kernel_rfl) (by kernel_rfl) ?_
     repeat (go_big_quiet_step ((go_at_call 153; exact viaB (c_Tags _ _ _ b0 b1 k0 k1))))
     refine wpQuiet_nil ?_
     rintro _ ⟨e, rfl⟩
     go_wp2
     go_ret
     exact ⟨rfl, hB.trans ((via_below _ e).mono hB.size)⟩
   · rw [plItem_out (by omega)]
     by_cases c3 : s < 0
     · have d1 : decide (s < 0) = true := by simp; omega
       clear c2 c
       go_enter Tryz.func154, Tryz.ntmps154
       go_wp2_with fail
       refine (c_there _ _ _ b0 b1 k0 k1).mono ?_
       rintro e w' ⟨rfl, hb⟩
       have q2 : w'.cell? ⟨w.heap.size, 2, none⟩ = some (.int .i64 s) := by rw [hb.cell (p := ⟨w.heap.size, 2, none⟩) (by simp)]; simp
       have hB : Below w.heap.size w w' := ((Below.refl _ _).alloc (Nat.le_refl _) _).trans (hb.mono (by simp))
       clear hb
       go_wp2_with fail
       go_ret
       exact ⟨rfl, hB⟩
     · have d1 : decide (s < 0) = false := by simp; omega
       have d2 : decide (4 ≤ s) = true := by simp; omega
       clear c2 c
       go_enter Tryz.func154, Tryz.ntmps154
       go_wp2_with fail
       refine (c_there _ _ _ b0 b1 k0 k1).mono ?_
       rintro e w' ⟨rfl, hb⟩
       have q2 : w'.cell? ⟨w.heap.size, 2, none⟩ = some (.int .i64 s) := by rw [hb.cell (p := ⟨w.heap.size, 2, none⟩) (by simp)]; simp
       have hB : Below w.heap.size w w' := ((Below.refl _ _).alloc (Nat.le_refl _) _).trans (hb.mono (by simp))
       clear hb
       go_wp2_with fail
       go_ret
       exact ⟨rfl, hB⟩
 · have d := decide_eq_false c
   rw [plItem_out (by omega)]
   clear c
   go_enter Tryz.func154, Tryz.ntmps154
   go_wp2_with (go_at_call 213; refine (c_there _ _ _ b0 b1 k0 k1).mono ?_; rintro e w' ⟨rfl, hb⟩)
   go_ret
   exact ⟨rfl, ((Below.refl _ _).alloc (Nat.le_refl _) _).trans (hb.mono (by simp))⟩
end
section
open Go.RowKit
structure Row (w : World) (O : Om) (t : Nat) (E : TypeId) (size : Nat) (v : Value) (n : Nat) (xs : List Value) : Prop where
 own : w.ownsRow 0 E size v n xs
 vo : ∀ k, v.ownBlock = some k → O k = t
theorem Row.nil (w : World) (O : Om) (t : Nat) (E : TypeId) (size : Nat) : Row w O t E size (.slice none 0 0) 0 [] := ⟨World.ownsRow_nil _ _ _ _, fun k h => by cases h⟩
theorem Row.ext {S : Nat → Prop} {O O' : Om} {w w' : World} {t size n : Nat} {E : TypeId} {v : Value} {xs : List Value} (h : Row w O t E size v n xs) (e : Ext S O w O' w') (hs : ¬ S t) : Row w' O' t E size v n xs :=
 ⟨e.own h.own fun k hk => by rw [h.vo k hk]; exact hs, fun k hk => (e.lo k (h.own.lt k hk).2).trans (h.vo k hk)⟩
theorem Row.below {O : Om} {w w' : World} {t size n : Nat} {E : TypeId} {v : Value} {xs : List Value} (h : Row w O t E size v n xs) (hb : Below w.heap.size w w') : Row w' O t E size v n xs :=
 ⟨ownsRow_below h.own hb, h.vo⟩
theorem append_row {P : Program} {ops : Array Oper} {rest : List Oper} {o : Oper} {a : Act} {Q : Exit → Act → World → Prop} (w : World) (hgd : o.guard = none) (s x : Operand) (ty : TypeId)
 (ho : o.op = .call { callee := .builtin .append, args := #[s, x], argTypes := #[ty, ty] })
 (e : TypeId) (i : TypeInfo) (z : Value) (size bytes : Nat) (ht : P.underlying ty = some (.slice e)) (hi : P.info? e = some i) (hz : i.zero = some z)
 (hsize : i.size = size) (hby : i.bytes = bytes) (hzs : z.cells.size = size) (hsz : 0 < size) (hbp : 0 < bytes)
 (O : Om) (t : Nat) (ht0 : t ≠ 0) (hhi : ∀ j, O j ≠ 0 → j < w.heap.size)
 (v : Value) (n : Nat) (xs : List Value) (hs : a.eval s = v) (hrow : Row w O t e size v n xs)
 (cs : List Value) (e' : TypeId) (hx : a.eval x = .slice (some ⟨w.heap.size, 0, none⟩) 1 1) (hl : cs.length = size) (h1 : ∀ u ∈ cs, u.oneCell' = true)
 (hbytes : (n + 1) * bytes ≤ 140737488355328)
 (h : ∀ g cap w' O', Ext (fun j => j = t) O w O' w' → Row w' O' t e size (.slice (some ⟨g, 0, none⟩) (n + 1) cap) (n + 1) (xs ++ cs) → wpList P ops Q rest (a.put o.dst (.slice (some ⟨g, 0, none⟩) (n + 1) cap)) w') :
 wpList P ops Q (o :: rest) a (w.alloc (.cells cs.toArray e')) := by
 have hle : n + 1 ≤ (n + 1) * bytes := Nat.le_mul_of_pos_right _ hbp
 refine wpList_append_lies (w.alloc (.cells cs.toArray e')) hgd s x ty ho 0 e i z size bytes ht hi hz hsize hby hzs hsz v n xs hs (hrow.own.alloc _) ⟨w.heap.size, 0, none⟩ 1 1 cs hx (by rw [hl, Nat.one_mul]) (alloc_cells w cs e' _ rfl) h1 (by decide) (by unfold maxLen; omega) hbytes (Nat.zero_le _) (w.heap.size + 1) (by simp) ?_
 intro g cap w' hown hg hat hgl
 have hw : Wrote (fun k => v.ownBlock = some k) w w' := ((Wrote.refl _ _).alloc _).grown hg fun k hk _ => hk
 have hs := hw.size
 have hG : ∀ j, j < w.heap.size → (if j = g then t else O j) = O j := fun j hj => by
  by_cases e : j = g
  · rw [if_pos e]
    rcases hat with e2 | e2
    · subst e; exact (hrow.vo j e2).symm
    · omega
  · rw [if_neg e]
 refine h g cap w' (fun j => if j = g then t else O j) ⟨hG, fun j hj => ?_, fun j hj hn => ?_, hw.mono fun k _ hk => ⟨hrow.vo k hk, by rw [hrow.vo k hk]; exact ht0⟩⟩ ⟨hown, fun k hk => ?_⟩
 · try dsimp only at hj
   by_cases e : j = g
   · omega
   · rw [if_neg e] at hj; have := hhi j hj; omega
 · try dsimp only at hn ⊢
   by_cases e : j = g
   · rw [if_pos e]
   · rw [if_neg e] at hn; have := hhi j hn; omega
 · cases hk
   try dsimp only
   rw [if_pos rfl]
end
end Go.Proofs.YtifkfhnbkjkakaaGreatDoor
