/- What layer 7 computes, in plain Lean: an epoch's word, a tick, a flush, when an item dies, whether it is alive. -/
import Derived.Laws.BitsAllLaws
import Derived.Laws.BitsLemmas
namespace Go.Proofs.YtijifjiehldcaaaGreat
set_option linter.unusedVariables false
set_option linter.unusedSimpArgs false

def epNow (w : Int) : Int := w % 16777216
def epAt (w : Int) : Int := w / 16777216 % 16777216
def epGen (w : Int) : Int := w / 281474976710656
def epPut (n a g : Int) : Int := n % 16777216 + 16777216 * (a % 16777216) + 281474976710656 * (g % 65536)
def epTickNow (w : Int) : Int := if epNow w < 16777215 then epNow w + 1 else 16777215
def epDue (w : Int) : Bool := decide (0 < epAt w ∧ epAt w ≤ epTickNow w)
def epTick (w : Int) : Int := if epDue w then epPut (epTickNow w) 0 (if epGen w < 65535 then epGen w + 1 else 65535) else epPut (epTickNow w) (epAt w) (epGen w)
def epFlushOk (w : Int) : Bool := decide (epGen w ≠ 65535)
def epFlush (w d : Int) : Int :=
  if epGen w = 65535 then w
  else if d < 1 then epPut (epNow w) 0 (epGen w + 1)
  else epPut (epNow w) (if d < 16777215 - epNow w then epNow w + d else 16777215) (epGen w)
def epDies (w x : Int) : Int := if x = 0 then -1 else if x < 0 then epNow w else if x ≤ 2592000 then epNow w + x else x
def epAlive (dies gen w : Int) : Bool := decide (gen = epGen w ∧ (dies = -1 ∨ epNow w < dies))

def epExp (d n : Int) : Bool := decide (d ≠ -1 ∧ d ≤ n)
def epFl (g b : Int) : Bool := decide (g ≠ b)
theorem epAlive_eq (d g x : Int) : epAlive d g x = (!epExp d (epNow x) && !epFl g (epGen x)) := by
  unfold epAlive epExp epFl
  rw [Bool.eq_iff_iff]
  simp
  omega

theorem epNow_bd (w : Int) : 0 ≤ epNow w ∧ epNow w ≤ 16777215 := by unfold epNow; omega
theorem epAt_bd (w : Int) : 0 ≤ epAt w ∧ epAt w ≤ 16777215 := by unfold epAt; omega
theorem epGen_bd {w : Int} (h0 : 0 ≤ w) (h1 : w ≤ 18446744073709551615) : 0 ≤ epGen w ∧ epGen w ≤ 65535 := by unfold epGen; omega
theorem epTickNow_bd (w : Int) : 0 ≤ epTickNow w ∧ epTickNow w ≤ 16777215 := by have := epNow_bd w; unfold epTickNow; split <;> omega
theorem epPut_bd (n a g : Int) : 0 ≤ epPut n a g ∧ epPut n a g ≤ 18446744073709551615 := by unfold epPut; omega
theorem epTick_bd (w : Int) : 0 ≤ epTick w ∧ epTick w ≤ 18446744073709551615 := by unfold epTick; split <;> exact epPut_bd _ _ _
theorem epFlush_bd {w : Int} (d : Int) (h0 : 0 ≤ w) (h1 : w ≤ 18446744073709551615) : 0 ≤ epFlush w d ∧ epFlush w d ≤ 18446744073709551615 := by
  unfold epFlush
  split
  · exact ⟨h0, h1⟩
  · split <;> exact epPut_bd _ _ _
theorem epNow_put (n a g : Int) : epNow (epPut n a g) = n % 16777216 := by unfold epNow epPut; omega
theorem epAt_put (n a g : Int) : epAt (epPut n a g) = a % 16777216 := by unfold epAt epPut; omega
theorem epGen_put (n a g : Int) : epGen (epPut n a g) = g % 65536 := by unfold epGen epPut; omega
theorem epPut_back {w : Int} (h0 : 0 ≤ w) (h1 : w ≤ 18446744073709551615) : epPut (epNow w) (epAt w) (epGen w) = w := by unfold epPut epNow epAt epGen; omega

/-! ### the program's own spelling: shifts and masks -/
theorem u64_mask24 {x : Int} (h0 : 0 ≤ x) (h1 : x < 18446744073709551616) : bits .and .u64 x 16777215 = x % 16777216 := by
  rw [u64_and x 16777215 h0 h1 (by decide) (by decide), show (16777215 : Int).toNat = 2 ^ 24 - 1 from rfl, Nat.and_two_pow_sub_one_eq_mod, Int.natCast_emod, Int.toNat_of_nonneg h0]
  rfl
theorem u64_mask16 {x : Int} (h0 : 0 ≤ x) (h1 : x < 18446744073709551616) : bits .and .u64 x 65535 = x % 65536 := by
  rw [u64_and x 65535 h0 h1 (by decide) (by decide), show (65535 : Int).toNat = 2 ^ 16 - 1 from rfl, Nat.and_two_pow_sub_one_eq_mod, Int.natCast_emod, Int.toNat_of_nonneg h0]
  rfl
theorem or_parts {n a g : Int} (n0 : 0 ≤ n) (n1 : n < 16777216) (a0 : 0 ≤ a) (a1 : a < 16777216) (g0 : 0 ≤ g) (g1 : g < 65536) :
    bits .or .u64 (bits .or .u64 n (a * 16777216)) (g * 281474976710656) = n + 16777216 * a + 281474976710656 * g := by
  rw [u64_or n (a * 16777216) n0 (by omega) (by omega) (by omega)]
  have e1 : n.toNat ||| (a * 16777216).toNat = n.toNat + (a * 16777216).toNat := by
    rw [Nat.or_comm, nat_join 24 _ _ (by omega) (by omega), Nat.add_comm]
  rw [e1, u64_or _ (g * 281474976710656) (by omega) (by omega) (by omega) (by omega)]
  have e2 : (((n.toNat + (a * 16777216).toNat : Nat) : Int)).toNat ||| (g * 281474976710656).toNat = (n.toNat + (a * 16777216).toNat) + (g * 281474976710656).toNat := by
    rw [Int.toNat_natCast, Nat.or_comm, nat_join 48 _ _ (by omega) (by omega), Nat.add_comm]
  rw [e2]
  omega
end Go.Proofs.YtijifjiehldcaaaGreat
