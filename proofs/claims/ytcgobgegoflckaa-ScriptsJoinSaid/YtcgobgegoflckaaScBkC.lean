/- Layer 33: contracts of the law's may and alike. -/
import Derived.Test.YtcgobgegoflckaaScPp
import Derived.Test.YtcgobgegoflckaaScBkP
namespace Go.Proofs.Ytcgobgegoflckaa
open Go.RowKit
set_option linter.unusedVariables false

theorem c_lmay (k n : Int) (ao : Option Addr) (m c : Nat) (w : World) (hm : m ≤ 9223372036854775807) :
    Calls Try.prog 15 #[.agg #[.int .u8 k, .int .i64 n, .slice ao m c]] w fun e w' => e = .returned (.bool (csMayN k n m)) ∧ Below w.heap.size w w' := by
  by_cases k0 : k = 0
  · subst k0
    go_enter Try.func15, Try.ntmps15
    go_wp2
    all_goals
      go_ret
      exact ⟨ret_bool (by unfold csMayN; rw [Bool.eq_iff_iff]; simp; omega), (Below.refl _ _).alloc (Nat.le_refl _) _⟩
  · have e0 : (k == 0) = false := by simp [k0]
    by_cases k1 : k = 1
    · subst k1
      go_enter Try.func15, Try.ntmps15
      go_wp2
      all_goals
        go_ret
        exact ⟨ret_bool (by unfold csMayN; rw [Bool.eq_iff_iff]; simp; omega), (Below.refl _ _).alloc (Nat.le_refl _) _⟩
    · have e1 : (k == 1) = false := by simp [k1]
      by_cases k2 : k = 2
      · subst k2
        clear k0 k1
        go_enter Try.func15, Try.ntmps15
        go_wp2
        all_goals
          go_ret
          exact ⟨ret_bool (by unfold csMayN; rw [Bool.eq_iff_iff]; simp; omega), (Below.refl _ _).alloc (Nat.le_refl _) _⟩
      · have e2 : (k == 2) = false := by simp [k2]
        have K0 := Lib.hid k0
        have K1 := Lib.hid k1
        have K2 := Lib.hid k2
        clear k0 k1 k2
        go_enter Try.func15, Try.ntmps15
        go_wp2
        all_goals
          go_ret
          exact ⟨ret_bool (by have := K0.out; have := K1.out; have := K2.out; unfold csMayN; rw [Bool.eq_iff_iff]; simp; omega), (Below.refl _ _).alloc (Nat.le_refl _) _⟩
set_option maxHeartbeats 1000000 in
theorem c_alike (va vb : Value) (A B : List (Cm × Value)) (w : World) (ha : Arr w va A.length 3 (rowOf cmc A)) (hy : Byts w A) (hka : ∀ p ∈ A, 0 ≤ p.1.kind ∧ p.1.kind ≤ 255)
    (hb : Arr w vb B.length 3 (rowOf cmc B)) (hyb : Byts w B) (he : A.map Prod.fst = B.map Prod.fst) (hL : B.length ≤ 1000000) (hl : ∀ p ∈ B, p.1.bytes.length ≤ 1000000) (hkb : ∀ p ∈ B, 0 ≤ p.1.kind ∧ p.1.kind ≤ 255) :
    Calls Try.prog 16 #[va, vb] w fun e w' => e = .returned (.bool true) ∧ Below w.heap.size w w' := by
  obtain ⟨ao, cp, rfl, hcp, hm⟩ := ha.shape
  obtain ⟨bo, cq, rfl, hcq, hmq⟩ := hb.shape
  have HA := Lib.hid ha
  have HY := Lib.hid hy
  have HKA := Lib.hid hka
  have HE := Lib.hid he
  have HO := Lib.hid (c_Other _ B w hb hyb hL hl hkb)
  clear ha hy hka hb hyb he hL hl hkb
  go_enter Try.func16, Try.ntmps16
  go_wp2_with fail
  refine (HO.out).mono ?_
  rintro e w1 ⟨⟨v', R, rfl, hR, hC⟩, hb1⟩
  have HR := Lib.hid hR
  have HC := Lib.hid hC
  have HB1 := Lib.hid hb1
  clear hR hC hb1
  go_wp2_with fail
  refine (c_Same _ _ A R w1 ⟨Arr.below HA.out HB1.out, HY.out.below HB1.out, Arr.of_own HC.out.own, HC.out.byt, by rw [HR.out, HE.out], HKA.out⟩).mono ?_
  rintro e w' ⟨rfl, m, rfl⟩
  go_wp2
  go_ret
  exact ⟨rfl, below_drewN HB1.out m⟩
end Go.Proofs.Ytcgobgegoflckaa
