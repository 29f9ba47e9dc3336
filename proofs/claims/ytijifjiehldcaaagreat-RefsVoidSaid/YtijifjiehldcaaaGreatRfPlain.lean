/- What layer 22 computes, in plain Lean: marks, and the steps of a Touch. -/
import Derived.Laws.BitsAllLaws
import Derived.Laws.BitsLemmas
namespace Go.Proofs.YtijifjiehldcaaaGreat
set_option linter.unusedVariables false
set_option linter.unusedSimpArgs false

/-- The last access: its kind, address, what stood, what stands. -/
structure La where
  k : Int
  a : Int
  s : Int
  i : Int
def upd (M : Int → Int) (a v : Int) : Int → Int := fun x => if x = a then v else M x
theorem upd_same (M : Int → Int) (a v : Int) : upd M a v a = v := by unfold upd; rw [if_pos rfl]
theorem upd_other {M : Int → Int} {a x : Int} (v : Int) (h : x ≠ a) : upd M a v x = M x := by unfold upd; rw [if_neg h]
/-- What all cells hold is within a word. -/
def Bd (M : Int → Int) : Prop := ∀ x, 0 ≤ M x ∧ M x < 18446744073709551616
theorem Bd.upd {M : Int → Int} (h : Bd M) (a : Int) {v : Int} (h0 : 0 ≤ v) (h1 : v < 18446744073709551616) : Bd (upd M a v) := by
  intro x
  unfold Proofs.YtijifjiehldcaaaGreat.upd
  split
  · exact ⟨h0, h1⟩
  · exact h x
def rfMarked (v : Int) : Bool := decide (v % 2 = 1)
def rfLess (v : Int) : Int := (v + v % 2) % 18446744073709551616
def rfMark (v : Int) : Int := v + (1 - v % 2)
/-- A Touch: the address, the next step, the word, was it done. -/
structure Tc where
  at_ : Int
  next : Int
  word : Int
  done : Bool
/-- What a Touch and the cells come to. -/
structure TM where
  M : Int → Int
  n : Int
  la : La
  t : Tc
def tcNew (at_ : Int) : Tc := ⟨at_, 0, 0, false⟩
def tcStep (z : TM) : TM :=
  if z.t.at_ = 0 then z else
  if z.t.next = 0 then ⟨z.M, z.n + 1, ⟨1, z.t.at_, z.M z.t.at_, z.M z.t.at_⟩, ⟨if rfMarked (z.M z.t.at_) then 0 else z.t.at_, 1, z.M z.t.at_, z.t.done⟩⟩ else
  if z.t.next = 1 then ⟨z.M, z.n + 1, ⟨1, 5, z.M 5, z.M 5⟩, ⟨if z.M 5 ≠ 0 then 0 else z.t.at_, 2, z.t.word, z.t.done⟩⟩ else
  if z.M z.t.at_ = z.t.word then ⟨upd z.M z.t.at_ (rfMark z.t.word), z.n + 1, ⟨3, z.t.at_, z.t.word, rfMark z.t.word⟩, ⟨0, 3, z.t.word, true⟩⟩
  else ⟨z.M, z.n + 1, ⟨3, z.t.at_, z.M z.t.at_, z.M z.t.at_⟩, ⟨0, 3, z.t.word, false⟩⟩
def tcOver (t : Tc) : Bool := decide (t.at_ = 0)
/-- Run by itself: how many steps. -/
def tcRun : Nat → TM → Nat × TM
  | 0, z => (0, z)
  | k + 1, z => if z.t.at_ = 0 then (0, z) else ((tcRun k (tcStep z)).1 + 1, (tcRun k (tcStep z)).2)
theorem u64_mark (v : Int) (h0 : 0 ≤ v) (h1 : v < 18446744073709551616) : bits .and .u64 v 1 = v % 2 := by
  rw [u64_and v 1 h0 h1 (by omega) (by omega)]
  have : v.toNat &&& (1 : Int).toNat = v.toNat % 2 := Nat.and_one_is_mod _
  rw [this]; omega
theorem u64_ormark (v : Int) (h0 : 0 ≤ v) (h1 : v < 18446744073709551616) : bits .or .u64 v 1 = rfMark v := by
  rw [u64_or v 1 h0 h1 (by omega) (by omega)]
  have h : v.toNat ||| (1 : Int).toNat = v.toNat + (1 - v.toNat % 2) := by
    show v.toNat ||| 1 = _
    have h1 : (v.toNat ||| 1) / 2 = v.toNat / 2 := by rw [Nat.or_div_two]; simp
    have h2 : (v.toNat ||| 1) % 2 = 1 := by
      have := Nat.or_mod_two_pow (a := v.toNat) (b := 1) (n := 1)
      rw [Nat.pow_one] at this
      rw [this]
      rcases Nat.mod_two_eq_zero_or_one v.toNat with e | e <;> (rw [e]; decide)
    omega
  rw [h]; unfold rfMark; omega
end Go.Proofs.YtijifjiehldcaaaGreat
