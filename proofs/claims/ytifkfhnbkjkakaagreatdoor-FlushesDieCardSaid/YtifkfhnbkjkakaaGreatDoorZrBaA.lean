/- What layer 1 computes, in plain Lean: the hash of a key, its tag, a table's size, a hash's bucket, the other one by a tag, a place's stripe. No program in sight. What layer 8 computes, in plain Lean: the words' addresses, what a word of tables says, spots and their numbers, may a table grow. Small lemmas over any program, for regions that draw their order and hold calls which make memory: one walk of the lexical order, in the class of worlds that hold all that was there ('Later'). Contracts of places' Ref and Word. Contracts that other seats of ours hold too (taken by sub.py). -/
import Derived.BigQuiet
import Derived.Deep.QuietTactic
import Derived.Laws.BitsAllLaws
import Derived.Laws.BitsLemmas
import Derived.Lib.Hide
import Derived.Test.YtifkfhnbkjkakaaGreatDoorProg
import Derived.WalkKit
import Derived.WalkLawsBesides
import Derived.WalkSpells
namespace Go.Proofs.YtifkfhnbkjkakaaGreatDoor
set_option linter.unusedSimpArgs false
set_option linter.unusedVariables false
section
def fnvStep (h c : Int) : Int := ((h.toNat ^^^ c.toNat) * 1099511628211 % 18446744073709551616 : Nat)
def fnvFrom (h : Int) (l : List UInt8) : Int := l.foldl (fun h c => fnvStep h (c.toNat : Int)) h
def fnvHash (l : List UInt8) : Int := fnvFrom 14695981039346656037 l
def fnvTag (h : Int) : Int := if h / 72057594037927936 < 1 then 1 else h / 72057594037927936
def fnvSize (b : Int) : Int := if 1 ≤ b ∧ b ≤ 12 then 2 ^ b.toNat else 0
def fnvBucket (h b : Int) : Int := if 1 ≤ b ∧ b ≤ 12 then h % fnvSize b else -1
def fnvOther (k t b : Int) : Int := if 0 ≤ k ∧ k < fnvSize b ∧ 1 ≤ t ∧ t ≤ 255 then ((k.toNat ^^^ (t.toNat * 1540483477 % (fnvSize b).toNat) : Nat) : Int) else -1
def fnvStripe (b k : Int) : Int := if 0 ≤ k ∧ k < fnvSize b then (k + 31 * b) % 64 else -1
theorem fnvStep_bd (h c : Int) : 0 ≤ fnvStep h c ∧ fnvStep h c < 18446744073709551616 := by
 unfold fnvStep
 have := Nat.mod_lt ((h.toNat ^^^ c.toNat) * 1099511628211) (show 0 < 18446744073709551616 by decide)
 omega
theorem fnvFrom_snoc (h : Int) (l : List UInt8) (c : UInt8) : fnvFrom h (l ++ [c]) = fnvStep (fnvFrom h l) (c.toNat : Int) := by
 simp [fnvFrom]
theorem fnvFrom_nil (h : Int) : fnvFrom h [] = h := rfl
theorem fnvFrom_bd (h : Int) (l : List UInt8) (h0 : 0 ≤ h) (h1 : h < 18446744073709551616) : 0 ≤ fnvFrom h l ∧ fnvFrom h l < 18446744073709551616 := by
 induction l generalizing h with
 | nil => exact ⟨h0, h1⟩
 | cons c l ih => exact ih (fnvStep h c.toNat) (fnvStep_bd _ _).1 (fnvStep_bd _ _).2
theorem fnvHash_bd (l : List UInt8) : 0 ≤ fnvHash l ∧ fnvHash l < 18446744073709551616 := fnvFrom_bd _ l (by decide) (by decide)
theorem fnvTag_bd (h : Int) (h0 : 0 ≤ h) (h1 : h < 18446744073709551616) : 1 ≤ fnvTag h ∧ fnvTag h ≤ 255 := by
 unfold fnvTag; split <;> omega
theorem two_pow_le {n : Nat} (h1 : 1 ≤ n) (h2 : n ≤ 12) : (2 : Int) ≤ 2 ^ n ∧ (2 : Int) ^ n ≤ 4096 := by
 have : ∀ n, n ≤ 12 → 1 ≤ n → (2 : Int) ≤ 2 ^ n ∧ (2 : Int) ^ n ≤ 4096 := by decide
 exact this n h2 h1
theorem fnvSize_in {b : Int} (h1 : 1 ≤ b) (h2 : b ≤ 12) : fnvSize b = 2 ^ b.toNat := by unfold fnvSize; rw [if_pos ⟨h1, h2⟩]
theorem fnvSize_out {b : Int} (h : b < 1 ∨ 12 < b) : fnvSize b = 0 := by unfold fnvSize; rw [if_neg (by omega)]
theorem fnvSize_bd (b : Int) : 0 ≤ fnvSize b ∧ fnvSize b ≤ 4096 := by
 by_cases h : 1 ≤ b ∧ b ≤ 12
 · rw [fnvSize_in h.1 h.2]; have := two_pow_le (n := b.toNat) (by omega) (by omega); omega
 · rw [fnvSize_out (by omega)]; omega
theorem fnvSize_pos {b : Int} (h1 : 1 ≤ b) (h2 : b ≤ 12) : 2 ≤ fnvSize b := by
 rw [fnvSize_in h1 h2]; have := two_pow_le (n := b.toNat) (by omega) (by omega); omega
theorem fnvSize_iff (b : Int) : 1 ≤ fnvSize b ↔ 1 ≤ b ∧ b ≤ 12 := by
 constructor
 · intro h; by_cases hb : 1 ≤ b ∧ b ≤ 12
   · exact hb
   · rw [fnvSize_out (by omega)] at h; omega
 · intro ⟨h1, h2⟩; have := fnvSize_pos h1 h2; omega
theorem fnvSize_nat {b : Int} (h1 : 1 ≤ b) (h2 : b ≤ 12) : (fnvSize b).toNat = 2 ^ b.toNat := by
 rw [fnvSize_in h1 h2, show (2 : Int) ^ b.toNat = ((2 ^ b.toNat : Nat) : Int) from (Int.natCast_pow 2 _).symm, Int.toNat_natCast]
theorem and_size {b : Int} (h1 : 1 ≤ b) (h2 : b ≤ 12) (x : Nat) : x &&& (fnvSize b - 1).toNat = x % (fnvSize b).toNat := by
 have e : (fnvSize b - 1).toNat = 2 ^ b.toNat - 1 := by rw [← fnvSize_nat h1 h2]; have := fnvSize_pos h1 h2; omega
 rw [e, Nat.and_two_pow_sub_one_eq_mod, fnvSize_nat h1 h2]
theorem fnvBucket_in {h b : Int} (h1 : 1 ≤ b) (h2 : b ≤ 12) : fnvBucket h b = h % fnvSize b := by unfold fnvBucket; rw [if_pos ⟨h1, h2⟩]
theorem fnvBucket_out {h b : Int} (h1 : b < 1 ∨ 12 < b) : fnvBucket h b = -1 := by unfold fnvBucket; rw [if_neg (by omega)]
theorem fnvBucket_bd {h b : Int} (h1 : 1 ≤ b) (h2 : b ≤ 12) : 0 ≤ fnvBucket h b ∧ fnvBucket h b < fnvSize b := by
 rw [fnvBucket_in h1 h2]; have := fnvSize_pos h1 h2
 exact ⟨Int.emod_nonneg _ (by omega), Int.emod_lt_of_pos _ (by omega)⟩
theorem xor_size_lt {b : Int} (h1 : 1 ≤ b) (h2 : b ≤ 12) {k m : Nat} (hk : (k : Int) < fnvSize b) (hm : (m : Int) < fnvSize b) : ((k ^^^ m : Nat) : Int) < fnvSize b := by
 have e := fnvSize_nat h1 h2
 have := Nat.xor_lt_two_pow (x := k) (y := m) (n := b.toNat) (by omega) (by omega)
 have := fnvSize_pos h1 h2
 omega
theorem fnvOther_in {k t b : Int} (h : 0 ≤ k ∧ k < fnvSize b ∧ 1 ≤ t ∧ t ≤ 255) : fnvOther k t b = ((k.toNat ^^^ (t.toNat * 1540483477 % (fnvSize b).toNat) : Nat) : Int) := by unfold fnvOther; rw [if_pos h]
theorem fnvOther_out {k t b : Int} (h : ¬ (0 ≤ k ∧ k < fnvSize b ∧ 1 ≤ t ∧ t ≤ 255)) : fnvOther k t b = -1 := by unfold fnvOther; rw [if_neg h]
theorem fnvOther_bd {k t b : Int} (h : 0 ≤ k ∧ k < fnvSize b ∧ 1 ≤ t ∧ t ≤ 255) : 0 ≤ fnvOther k t b ∧ fnvOther k t b < fnvSize b := by
 have hb := (fnvSize_iff b).1 (by omega)
 rw [fnvOther_in h]
 refine ⟨by omega, xor_size_lt hb.1 hb.2 (by omega) ?_⟩
 have := fnvSize_pos hb.1 hb.2
 have := Nat.mod_lt (t.toNat * 1540483477) (show 0 < (fnvSize b).toNat by omega)
 omega
theorem bits_and_size {h b : Int} (h0 : 0 ≤ h) (h1 : h < 18446744073709551616) (b1 : 1 ≤ b) (b2 : b ≤ 12) : bits .and .u64 h (fnvSize b - 1) = h % fnvSize b := by
 have hp := fnvSize_pos b1 b2
 have hq := fnvSize_bd b
 rw [u64_and h (fnvSize b - 1) h0 h1 (by omega) (by omega), and_size b1 b2, Int.natCast_emod, Int.toNat_of_nonneg h0, Int.toNat_of_nonneg hq.1]
theorem ofInt_i64 (a : Nat) (ha : a < 9223372036854775808) : (BitVec.ofInt 64 (a : Int)).toNat = a := ofInt_u64 a (by omega)
theorem i64_and_nat (a b : Nat) (ha : a < 9223372036854775808) (hb : b < 9223372036854775808) : bits .and .i64 (a : Int) (b : Int) = ((a &&& b : Nat) : Int) := by
 have hx : a &&& b < 2 ^ 63 := Nat.and_lt_two_pow a (by omega)
 show IntKind.i64.wrap ((BitVec.ofInt 64 (a : Int) &&& BitVec.ofInt 64 (b : Int)).toNat : Int) = _
 rw [BitVec.toNat_and, ofInt_i64 a ha, ofInt_i64 b hb]
 rw [IntKind.wrap_i64]
 omega
theorem i64_xor_nat (a b : Nat) (ha : a < 9223372036854775808) (hb : b < 9223372036854775808) : bits .xor .i64 (a : Int) (b : Int) = ((a ^^^ b : Nat) : Int) := by
 have hx : a ^^^ b < 2 ^ 63 := Nat.xor_lt_two_pow (by omega) (by omega)
 show IntKind.i64.wrap ((BitVec.ofInt 64 (a : Int) ^^^ BitVec.ofInt 64 (b : Int)).toNat : Int) = _
 rw [BitVec.toNat_xor, ofInt_i64 a ha, ofInt_i64 b hb]
 rw [IntKind.wrap_i64]
 omega
theorem bits_other {k t b : Int} (h : 0 ≤ k ∧ k < fnvSize b ∧ 1 ≤ t ∧ t ≤ 255) : bits .xor .i64 k (bits .and .i64 (t * 1540483477) (fnvSize b - 1)) = fnvOther k t b := by
 have hb := (fnvSize_iff b).1 (by omega)
 have hp := fnvSize_pos hb.1 hb.2
 have hq := fnvSize_bd b
 rw [fnvOther_in h, show t * 1540483477 = ((t.toNat * 1540483477 : Nat) : Int) by omega, show fnvSize b - 1 = (((fnvSize b - 1).toNat : Nat) : Int) by omega,
  i64_and_nat _ _ (by omega) (by omega), and_size hb.1 hb.2]
 have hm := Nat.mod_lt (t.toNat * 1540483477) (show 0 < (fnvSize b).toNat by omega)
 rw [show k = ((k.toNat : Nat) : Int) by omega, i64_xor_nat _ _ (by omega) (by omega), Int.toNat_natCast]
end
section
def plOld (w : Int) : Int := if 1 ≤ w % 256 ∧ w % 256 ≤ 12 then w % 256 else 1
def plNow (w : Int) : Int := if w / 256 % 256 = plOld w + 1 ∧ w / 256 % 256 ≤ 12 then w / 256 % 256 else 0
def plTarget (w : Int) : Int := if plNow w = 0 then plOld w else plNow w
def plWord (o n : Int) : Int := o % 256 + 256 * (n % 256)
def plTags (b k : Int) : Int := if 0 ≤ k ∧ k < fnvSize b then 4096 + 8 * (fnvSize b + k) else 0
def plItem (b k s : Int) : Int := if 0 ≤ k ∧ k < fnvSize b ∧ 0 ≤ s ∧ s ≤ 3 then 4096 + 8 * (fnvSize b + k) + 1 + s else 0
def plVersion (b k : Int) : Int := if 0 ≤ k ∧ k < fnvSize b then 64 + (k + 31 * b) % 64 else 0
theorem plOld_bd (w : Int) : 1 ≤ plOld w ∧ plOld w ≤ 12 := by unfold plOld; split <;> omega
theorem plNow_cases (w : Int) : plNow w = 0 ∨ plNow w = plOld w + 1 ∧ plNow w ≤ 12 := by unfold plNow; split <;> omega
theorem plNow_bd (w : Int) : 0 ≤ plNow w ∧ plNow w ≤ 12 := by have := plNow_cases w; have := plOld_bd w; omega
theorem plWord_bd (o n : Int) : 0 ≤ plWord o n ∧ plWord o n ≤ 65535 := by unfold plWord; omega
theorem plTags_in {b k : Int} (h : 0 ≤ k ∧ k < fnvSize b) : plTags b k = 4096 + 8 * (fnvSize b + k) := by unfold plTags; rw [if_pos h]
theorem plTags_out {b k : Int} (h : ¬ (0 ≤ k ∧ k < fnvSize b)) : plTags b k = 0 := by unfold plTags; rw [if_neg h]
theorem plVersion_in {b k : Int} (h : 0 ≤ k ∧ k < fnvSize b) : plVersion b k = 64 + fnvStripe b k := by unfold plVersion fnvStripe; rw [if_pos h, if_pos h]
theorem plVersion_out {b k : Int} (h : ¬ (0 ≤ k ∧ k < fnvSize b)) : plVersion b k = 0 := by unfold plVersion; rw [if_neg h]
theorem plItem_in {b k s : Int} (h : 0 ≤ k ∧ k < fnvSize b) (h2 : 0 ≤ s ∧ s ≤ 3) : plItem b k s = plTags b k + 1 + s := by unfold plItem; rw [if_pos (by omega), plTags_in h]
theorem plItem_out {b k s : Int} (h : ¬ ((0 ≤ k ∧ k < fnvSize b) ∧ 0 ≤ s ∧ s ≤ 3)) : plItem b k s = 0 := by unfold plItem; rw [if_neg (by omega)]
end
section
open Go.RowKit
structure Later (w : World) where
 to : World
 below : Below w.heap.size w to
instance (w : World) : Nonempty (Later w) := ⟨⟨w, Below.refl _ _⟩⟩
def via (w : World) (e : Later w) : World := e.to
theorem via_below (w : World) (e : Later w) : Below w.heap.size w (via w e) := e.below
@[simp, go_sem] theorem cell?_via (w : World) (e : Later w) (b o : Nat) (h : b < w.heap.size) : (via w e).cell? ⟨b, o, none⟩ = w.cell? ⟨b, o, none⟩ := e.below.cell (p := ⟨b, o, none⟩) h
@[simp, go_sem] theorem frozen?_via (w : World) (e : Later w) (b o : Nat) (h : b < w.heap.size) : (via w e).frozen? ⟨b, o, none⟩ = w.frozen? ⟨b, o, none⟩ := e.below.frozen (p := ⟨b, o, none⟩) h
@[simp, go_sem] theorem lt_via (w : World) (e : Later w) (n : Nat) (h : n < w.heap.size) : n < (via w e).heap.size := Nat.lt_of_lt_of_le h e.below.size
@[simp, go_sem] theorem le_via (w : World) (e : Later w) (n : Nat) (h : n ≤ w.heap.size) : n ≤ (via w e).heap.size := Nat.le_trans h e.below.size
theorem below_via {a w : World} (h : Below a.heap.size a w) (e : Later w) : Below a.heap.size a (via w e) := h.trans (e.below.mono h.size)
def Later.andThen {w : World} (e : Later w) (e2 : Later (via w e)) : Later w := ⟨e2.to, e.below.trans (e2.below.mono e.below.size)⟩
theorem below_alloc {a w : World} (h : Below a.heap.size a w) (o : Obj) : Below a.heap.size a (w.alloc o) := h.alloc h.size o
theorem below_setCell {a w : World} (h : Below a.heap.size a w) {b : Nat} (hb : a.heap.size ≤ b) (o : Nat) (u : Value) : Below a.heap.size a (w.setCell ⟨b, o, none⟩ u) := h.setCell (p := ⟨b, o, none⟩) hb u
theorem viaC {P : Program} {f : FuncId} {args : Array Value} {w : World} {v : Value}
 (h : Calls P f args w fun x w' => x = .returned v ∧ Below w.heap.size w w') : Calls P f args w fun x w' => x = .returned v ∧ ∃ m, w' = via w m :=
 h.mono fun _ w' ⟨he, hm⟩ => ⟨he, ⟨w', hm⟩, rfl⟩
theorem wp_region_via {P : Program} {id : Nat} {Q : Exit → Act → World → Prop} {a : Act} {w : World} {l : List Oper} (hm : P.follows .mixedOrders = true) (hB : Region.lexB .any l.toArray = true)
 (h : wpQuiet P l.toArray (fun w' => ∃ e, w' = via w e) (fun a' => ∀ w', (∃ e, w' = via w e) → Q .normal a' w') l a) : (Code.region id l.toArray true).wp P Q a w :=
 wp_region_quiet (C := fun w' => ∃ e, w' = via w e) hm hB ⟨⟨w.drew, (Below.refl _ _).drew⟩, rfl⟩ (by simpa using h)
theorem viaB {P : Program} {f : FuncId} {args : Array Value} {w : World} {e : Later w} {v : Value}
 (h : Calls P f args (via w e) fun x w' => x = .returned v ∧ Below (via w e).heap.size (via w e) w') : Calls P f args (via w e) fun x w'' => x = .returned v ∧ ∃ m, w'' = via w m :=
 h.mono fun _ w' ⟨he, hm⟩ => ⟨he, ⟨w', e.below.trans (hm.mono e.below.size)⟩, rfl⟩
theorem viaS {P : Program} {f : FuncId} {args : Array Value} {w : World} {e : Later w} {v : Value}
 (h : Calls P f args (via w e) fun x w' => x = .returned v ∧ via w e = w') : Calls P f args (via w e) fun x w'' => x = .returned v ∧ ∃ m, w'' = via w m :=
 h.mono fun _ _ ⟨he, hm⟩ => ⟨he, e, hm.symm⟩
theorem quietS {P : Program} {f : FuncId} {args : Array Value} {w : World} {n : Nat} {v : Value}
 (h : Calls P f args (w.drewN n) fun e w' => e = .returned v ∧ w.drewN n = w') : Calls P f args (w.drewN n) fun e w'' => e = .returned v ∧ ∃ m, w'' = w.drewN m :=
 h.mono fun _ _ ⟨he, hm⟩ => ⟨he, n, hm.symm⟩
theorem ret_int {k : IntKind} {a b : Int} (h : a = b) : Ending.returned (.int k a) = .returned (.int k b) := by rw [h]
theorem ret_bool {a b : Bool} (h : a = b) : Ending.returned (.bool a) = .returned (.bool b) := by rw [h]
theorem take_snoc (s : ByteArray) (k : Nat) (h : k < s.size) : s.data.toList.take (k + 1) = s.data.toList.take k ++ [s[k]] := by
 rw [List.take_succ_eq_append_getElem (by simpa using h)]; rfl
end
section
open Go.RowKit
theorem c_Word (o n : Int) (w : World) :
 Calls Tryz.prog 78 #[.int .i64 o, .int .i64 n] w fun e w' => e = .returned (.int .u64 (plWord o n)) ∧ w = w' := by
 have h1 : 0 ≤ o % 256 ∧ o % 256 < 256 := by omega
 have h2 : 0 ≤ n % 256 ∧ n % 256 < 256 := by omega
 unfold plWord
 go_enter Tryz.func78, Tryz.ntmps78
 go_wp2
 go_ret
 exact ⟨rfl, rfl⟩
end
section
open Go.RowKit
theorem size0 {b : Int} : (fnvSize b == 0) = decide (b < 1 ∨ 12 < b) := by
 rw [Bool.eq_iff_iff]
 simp only [beq_iff_eq, decide_eq_true_eq]
 have := fnvSize_iff b
 have := fnvSize_bd b
 omega
theorem c_Size (b : Int) (w : World) (b0 : -9223372036854775808 ≤ b) (b1 : b ≤ 9223372036854775807) :
 Calls Tryz.prog 205 #[.int .i64 b] w fun e w' => e = .returned (.int .i64 (fnvSize b)) ∧ w = w' := by
 by_cases c : 1 ≤ b ∧ b ≤ 12
 · obtain ⟨c1, c2⟩ := c
   have hp := two_pow_le (n := b.toNat) (by omega) (by omega)
   rw [fnvSize_in c1 c2]
   go_enter Tryz.func205, Tryz.ntmps205
   go_wp2
   go_ret
   exact ⟨rfl, rfl⟩
 · rw [fnvSize_out (by omega)]
   by_cases c2 : b < 1
   · go_enter Tryz.func205, Tryz.ntmps205
     go_wp2
     go_ret
     exact ⟨rfl, rfl⟩
   · have c3 : 12 < b := by omega
     go_enter Tryz.func205, Tryz.ntmps205
     go_wp2
     go_ret
     exact ⟨rfl, rfl⟩
theorem c_As (x : Int) (w : World) (x0 : 0 ≤ x) (x1 : x < 18446744073709551616) :
 Calls Tryz.prog 149 #[.int .u64 x] w fun e w' => e = .returned (.tuple #[.int .i64 (plOld x), .int .i64 (plNow x)]) ∧ w = w' := by
 by_cases c1 : 1 ≤ x % 256 ∧ x % 256 ≤ 12
 · have Ho := Lib.hid (show plOld x = x % 256 from by unfold plOld; rw [if_pos c1])
   have s1 : (fnvSize (x % 256) == 0) = false := by rw [size0]; simp; omega
   by_cases c2 : x / 256 % 256 = x % 256 + 1
   · by_cases c3 : x / 256 % 256 ≤ 12
     · have Hn := Lib.hid (show plNow x = x / 256 % 256 from by unfold plNow; rw [if_pos ⟨by rw [Ho.out]; exact c2, c3⟩])
       have s2 : (fnvSize (x / 256 % 256) == 0) = false := by rw [size0]; simp; omega
       have d2 : (x / 256 % 256 != x % 256 + 1) = false := by rw [c2]; simp
       rw [Ho.out, Hn.out]
       clear c2
       go_enter Tryz.func149, Tryz.ntmps149
       go_wp2_with (go_at_call 205; refine (c_Size _ _ (by omega) (by omega)).mono ?_; rintro e w' ⟨rfl, rfl⟩)
       go_ret2
       exact ⟨rfl, rfl⟩
     · have Hn := Lib.hid (show plNow x = 0 from by unfold plNow; rw [if_neg (by omega)])
       have s2 : (fnvSize (x / 256 % 256) == 0) = true := by rw [size0]; simp; omega
       have d2 : (x / 256 % 256 != x % 256 + 1) = false := by rw [c2]; simp
       rw [Ho.out, Hn.out]
       clear c2
       go_enter Tryz.func149, Tryz.ntmps149
       go_wp2_with (go_at_call 205; refine (c_Size _ _ (by omega) (by omega)).mono ?_; rintro e w' ⟨rfl, rfl⟩)
       go_ret2
       exact ⟨rfl, rfl⟩
   · have Hn := Lib.hid (show plNow x = 0 from by unfold plNow; rw [if_neg (by rw [Ho.out]; omega)])
     have d2 : (x / 256 % 256 != x % 256 + 1) = true := by rw [bne_iff_ne]; exact c2
     rw [Ho.out, Hn.out]
     clear c2
     go_enter Tryz.func149, Tryz.ntmps149
     go_wp2_with (go_at_call 205; refine (c_Size _ _ (by omega) (by omega)).mono ?_; rintro e w' ⟨rfl, rfl⟩)
     go_ret2
     exact ⟨rfl, rfl⟩
 · have Ho := Lib.hid (show plOld x = 1 from by unfold plOld; rw [if_neg c1])
   have s1 : (fnvSize (x % 256) == 0) = true := by rw [size0]; simp; omega
   by_cases c2 : x / 256 % 256 = 2
   · have Hn := Lib.hid (show plNow x = x / 256 % 256 from by unfold plNow; rw [if_pos ⟨by rw [Ho.out]; exact c2, by omega⟩])
     have s2 : (fnvSize (x / 256 % 256) == 0) = false := by rw [size0]; simp; omega
     have d2 : (x / 256 % 256 != 2) = false := by rw [c2]; rfl
     rw [Ho.out, Hn.out]
     clear c2 c1
     go_enter Tryz.func149, Tryz.ntmps149
     go_wp2_with (go_at_call 205; refine (c_Size _ _ (by omega) (by omega)).mono ?_; rintro e w' ⟨rfl, rfl⟩)
     go_ret2
     exact ⟨rfl, rfl⟩
   · have Hn := Lib.hid (show plNow x = 0 from by unfold plNow; rw [if_neg (by rw [Ho.out]; omega)])
     have d2 : (x / 256 % 256 != 2) = true := by rw [bne_iff_ne]; exact c2
     rw [Ho.out, Hn.out]
     clear c2 c1
     go_enter Tryz.func149, Tryz.ntmps149
     go_wp2_with (go_at_call 205; refine (c_Size _ _ (by omega) (by omega)).mono ?_; rintro e w' ⟨rfl, rfl⟩)
     go_ret2
     exact ⟨rfl, rfl⟩
theorem c_there (b k : Int) (w : World) (b0 : -9223372036854775808 ≤ b) (b1 : b ≤ 9223372036854775807) (k0 : -9223372036854775808 ≤ k) (k1 : k ≤ 9223372036854775807) :
 Calls Tryz.prog 213 #[.agg #[.int .i64 b, .int .i64 k]] w fun e w' => e = .returned (.bool (decide (0 ≤ k ∧ k < fnvSize b))) ∧ Below w.heap.size w w' := by
 have hs := fnvSize_bd b
 by_cases c1 : 0 ≤ k
 · have d1 : decide (0 ≤ k) = true := by simpa using c1
   by_cases c2 : k < fnvSize b
   · have d2 : decide (k < fnvSize b) = true := by simpa using c2
     rw [decide_eq_true (⟨c1, c2⟩ : 0 ≤ k ∧ k < fnvSize b)]
     go_enter Tryz.func213, Tryz.ntmps213
     go_wp2
     go_quiet ((go_at_call 205; exact quietS (c_Size _ _ b0 b1)))
     go_wp2
     go_ret
     exact ⟨rfl, below_drewN ((Below.refl _ _).alloc (Nat.le_refl _) _) _⟩
   · have d2 : decide (k < fnvSize b) = false := by simpa using c2
     rw [decide_eq_false (show ¬ (0 ≤ k ∧ k < fnvSize b) by omega)]
     go_enter Tryz.func213, Tryz.ntmps213
     go_wp2
     go_quiet ((go_at_call 205; exact quietS (c_Size _ _ b0 b1)))
     go_wp2
     go_ret
     exact ⟨rfl, below_drewN ((Below.refl _ _).alloc (Nat.le_refl _) _) _⟩
 · have d1 : decide (0 ≤ k) = false := by simpa using c1
   rw [decide_eq_false (show ¬ (0 ≤ k ∧ k < fnvSize b) by omega)]
   go_enter Tryz.func213, Tryz.ntmps213
   go_wp2
   go_quiet ((go_at_call 205; exact quietS (c_Size _ _ b0 b1)))
   go_wp2
   go_ret
   exact ⟨rfl, below_drewN ((Below.refl _ _).alloc (Nat.le_refl _) _) _⟩
theorem c_Tags (b k : Int) (w : World) (b0 : -9223372036854775808 ≤ b) (b1 : b ≤ 9223372036854775807) (k0 : -9223372036854775808 ≤ k) (k1 : k ≤ 9223372036854775807) :
 Calls Tryz.prog 153 #[.agg #[.int .i64 b, .int .i64 k]] w fun e w' => e = .returned (.int .u64 (plTags b k)) ∧ Below w.heap.size w w' := by
 have hs := fnvSize_bd b
 by_cases c : 0 ≤ k ∧ k < fnvSize b
 · have Ht := Lib.hid (plTags_in c)
   have d := decide_eq_true c
   rw [Ht.out]
   obtain ⟨ca, cb⟩ := c
   go_enter Tryz.func153, Tryz.ntmps153
   go_wp2_with fail
   refine (c_there _ _ _ b0 b1 k0 k1).mono ?_
   rintro e w' ⟨rfl, hb⟩
   have q0 : w'.cell? ⟨w.heap.size, 0, none⟩ = some (.int .i64 b) := by rw [hb.cell (p := ⟨w.heap.size, 0, none⟩) (by simp)]; simp
   have q1 : w'.cell? ⟨w.heap.size, 1, none⟩ = some (.int .i64 k) := by rw [hb.cell (p := ⟨w.heap.size, 1, none⟩) (by simp)]; simp
   go_wp2_with fail
   go_quiet ((go_at_call 205; exact quietS (c_Size _ _ b0 b1)))
   go_wp2
   go_ret
   exact ⟨by simp, below_drewN (((Below.refl _ _).alloc (Nat.le_refl _) _).trans (hb.mono (by simp))) _⟩
 · have d := decide_eq_false c
   rw [plTags_out c]
   clear c
   go_enter Tryz.func153, Tryz.ntmps153
   go_wp2_with (go_at_call 213; refine (c_there _ _ _ b0 b1 k0 k1).mono ?_; rintro e w' ⟨rfl, hb⟩)
   go_ret
   exact ⟨rfl, ((Below.refl _ _).alloc (Nat.le_refl _) _).trans (hb.mono (by simp))⟩
end
end Go.Proofs.YtifkfhnbkjkakaaGreatDoor
