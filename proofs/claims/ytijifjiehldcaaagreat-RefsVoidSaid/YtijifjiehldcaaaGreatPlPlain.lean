/- What layer 8 computes, in plain Lean: the words' addresses, what a word of tables says, spots and their numbers, may a table grow. -/
import Derived.Test.YtijifjiehldcaaaGreatFnvPlain
namespace Go.Proofs.YtijifjiehldcaaaGreat
set_option linter.unusedVariables false
set_option linter.unusedSimpArgs false

def plOld (w : Int) : Int := if 1 ≤ w % 256 ∧ w % 256 ≤ 12 then w % 256 else 1
def plNow (w : Int) : Int := if w / 256 % 256 = plOld w + 1 ∧ w / 256 % 256 ≤ 12 then w / 256 % 256 else 0
def plTarget (w : Int) : Int := if plNow w = 0 then plOld w else plNow w
def plSpots (w : Int) : Int := 4 * (fnvSize (plOld w) + fnvSize (plNow w))
def plWord (o n : Int) : Int := o % 256 + 256 * (n % 256)
def plAtBits (w n : Int) : Int := if n % plSpots w < 4 * fnvSize (plOld w) then plOld w else plNow w
def plAtN (w n : Int) : Int := if n % plSpots w < 4 * fnvSize (plOld w) then n % plSpots w else n % plSpots w - 4 * fnvSize (plOld w)
def plMay (f g b : Int) : Bool := decide (1 ≤ f ∧ f ≤ 12 ∧ 1 ≤ b ∧ b ≤ 11 ∧ 4 * (fnvSize b + fnvSize (b + 1)) ≤ 8 * max (min g 65536) (4 * fnvSize f))
def plTags (b k : Int) : Int := if 0 ≤ k ∧ k < fnvSize b then 4096 + 8 * (fnvSize b + k) else 0
def plItem (b k s : Int) : Int := if 0 ≤ k ∧ k < fnvSize b ∧ 0 ≤ s ∧ s ≤ 3 then 4096 + 8 * (fnvSize b + k) + 1 + s else 0
def plRef (r : Int) : Int := if r < 1 then 0 else 4294967296 + r
def plVersion (b k : Int) : Int := if 0 ≤ k ∧ k < fnvSize b then 64 + (k + 31 * b) % 64 else 0

theorem plOld_bd (w : Int) : 1 ≤ plOld w ∧ plOld w ≤ 12 := by unfold plOld; split <;> omega
theorem plNow_cases (w : Int) : plNow w = 0 ∨ plNow w = plOld w + 1 ∧ plNow w ≤ 12 := by unfold plNow; split <;> omega
theorem plNow_bd (w : Int) : 0 ≤ plNow w ∧ plNow w ≤ 12 := by have := plNow_cases w; have := plOld_bd w; omega
theorem plSpots_bd (w : Int) : 8 ≤ plSpots w ∧ plSpots w ≤ 32768 := by
  unfold plSpots
  have := fnvSize_pos (plOld_bd w).1 (plOld_bd w).2
  have := fnvSize_bd (plOld w)
  have := fnvSize_bd (plNow w)
  omega
theorem plWord_bd (o n : Int) : 0 ≤ plWord o n ∧ plWord o n ≤ 65535 := by unfold plWord; omega
theorem plTags_in {b k : Int} (h : 0 ≤ k ∧ k < fnvSize b) : plTags b k = 4096 + 8 * (fnvSize b + k) := by unfold plTags; rw [if_pos h]
theorem plTags_out {b k : Int} (h : ¬ (0 ≤ k ∧ k < fnvSize b)) : plTags b k = 0 := by unfold plTags; rw [if_neg h]
theorem plVersion_in {b k : Int} (h : 0 ≤ k ∧ k < fnvSize b) : plVersion b k = 64 + fnvStripe b k := by unfold plVersion fnvStripe; rw [if_pos h, if_pos h]
theorem plVersion_out {b k : Int} (h : ¬ (0 ≤ k ∧ k < fnvSize b)) : plVersion b k = 0 := by unfold plVersion; rw [if_neg h]
theorem plItem_in {b k s : Int} (h : 0 ≤ k ∧ k < fnvSize b) (h2 : 0 ≤ s ∧ s ≤ 3) : plItem b k s = plTags b k + 1 + s := by unfold plItem; rw [if_pos (by omega), plTags_in h]
theorem plItem_out {b k s : Int} (h : ¬ ((0 ≤ k ∧ k < fnvSize b) ∧ 0 ≤ s ∧ s ≤ 3)) : plItem b k s = 0 := by unfold plItem; rw [if_neg (by omega)]
/-- Go's way round: 'n % all + all' by all. -/
theorem round_mod {n a : Int} (ha : 0 < a) : (n.tmod a + a).tmod a = n % a := by
  have h1 := Int.tmod_lt_of_pos n ha
  have h2 : -a < n.tmod a := by
    have := Int.lt_tmod_of_pos n ha
    omega
  rw [Int.tmod_eq_emod_of_nonneg (by omega), Int.add_emod_right]
  rcases Int.lt_or_le n 0 with h | h
  · have e : n.tmod a = - ((-n) % a) := by
      rw [show n = -(-n) by omega, Int.neg_tmod, Int.tmod_eq_emod_of_nonneg (by omega), Int.neg_neg]
    have q := Int.emod_add_mul_ediv (-n) a
    rw [e, show -(-n % a) = n + a * (-n / a) by omega, Int.add_mul_emod_self_left]
  · rw [Int.tmod_eq_emod_of_nonneg h, Int.emod_emod_of_dvd _ (Int.dvd_refl a)]
end Go.Proofs.YtijifjiehldcaaaGreat
