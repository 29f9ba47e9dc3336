/- Contracts that other seats of ours hold too (taken by sub.py). -/
import Derived.Test.YtkpkhibknaoboaaGreatPl2
import Derived.BigQuiet
namespace Go.Proofs.YtkpkhibknaoboaaGreat
set_option linter.unusedSimpArgs false
open Go.RowKit
set_option linter.unusedVariables false
theorem size0 {b : Int} : (fnvSize b == 0) = decide (b < 1 ∨ 12 < b) := by
  rw [Bool.eq_iff_iff]
  simp only [beq_iff_eq, decide_eq_true_eq]
  have := fnvSize_iff b
  have := fnvSize_bd b
  omega

theorem c_Size (b : Int) (w : World) (b0 : -9223372036854775808 ≤ b) (b1 : b ≤ 9223372036854775807) :
    Calls Tryz.prog 27 #[.int .i64 b] w fun e w' => e = .returned (.int .i64 (fnvSize b)) ∧ w = w' := by
  by_cases c : 1 ≤ b ∧ b ≤ 12
  · obtain ⟨c1, c2⟩ := c
    have hp := two_pow_le (n := b.toNat) (by omega) (by omega)
    rw [fnvSize_in c1 c2]
    go_enter Tryz.func27, Tryz.ntmps27
    go_wp2
    go_ret
    exact ⟨rfl, rfl⟩
  · rw [fnvSize_out (by omega)]
    by_cases c2 : b < 1
    · go_enter Tryz.func27, Tryz.ntmps27
      go_wp2
      go_ret
      exact ⟨rfl, rfl⟩
    · have c3 : 12 < b := by omega
      go_enter Tryz.func27, Tryz.ntmps27
      go_wp2
      go_ret
      exact ⟨rfl, rfl⟩

theorem c_As (x : Int) (w : World) (x0 : 0 ≤ x) (x1 : x < 18446744073709551616) :
    Calls Tryz.prog 21 #[.int .u64 x] w fun e w' => e = .returned (.tuple #[.int .i64 (plOld x), .int .i64 (plNow x)]) ∧ w = w' := by
  by_cases c1 : 1 ≤ x % 256 ∧ x % 256 ≤ 12
  · have Ho := Lib.hid (show plOld x = x % 256 from by unfold plOld; rw [if_pos c1])
    have s1 : (fnvSize (x % 256) == 0) = false := by rw [size0]; simp; omega
    by_cases c2 : x / 256 % 256 = x % 256 + 1
    · by_cases c3 : x / 256 % 256 ≤ 12
      · have Hn := Lib.hid (show plNow x = x / 256 % 256 from by unfold plNow; rw [if_pos ⟨by rw [Ho.out]; exact c2, c3⟩])
        have s2 : (fnvSize (x / 256 % 256) == 0) = false := by rw [size0]; simp; omega
        have d2 : (x / 256 % 256 != x % 256 + 1) = false := by rw [c2]; simp
        rw [Ho.out, Hn.out]
        clear c2
        go_enter Tryz.func21, Tryz.ntmps21
        go_wp2_with (go_at_call 27; refine (c_Size _ _ (by omega) (by omega)).mono ?_; rintro e w' ⟨rfl, rfl⟩)
        go_ret2
        exact ⟨rfl, rfl⟩
      · have Hn := Lib.hid (show plNow x = 0 from by unfold plNow; rw [if_neg (by omega)])
        have s2 : (fnvSize (x / 256 % 256) == 0) = true := by rw [size0]; simp; omega
        have d2 : (x / 256 % 256 != x % 256 + 1) = false := by rw [c2]; simp
        rw [Ho.out, Hn.out]
        clear c2
        go_enter Tryz.func21, Tryz.ntmps21
        go_wp2_with (go_at_call 27; refine (c_Size _ _ (by omega) (by omega)).mono ?_; rintro e w' ⟨rfl, rfl⟩)
        go_ret2
        exact ⟨rfl, rfl⟩
    · have Hn := Lib.hid (show plNow x = 0 from by unfold plNow; rw [if_neg (by rw [Ho.out]; omega)])
      have d2 : (x / 256 % 256 != x % 256 + 1) = true := by rw [bne_iff_ne]; exact c2
      rw [Ho.out, Hn.out]
      clear c2
      go_enter Tryz.func21, Tryz.ntmps21
      go_wp2_with (go_at_call 27; refine (c_Size _ _ (by omega) (by omega)).mono ?_; rintro e w' ⟨rfl, rfl⟩)
      go_ret2
      exact ⟨rfl, rfl⟩
  · have Ho := Lib.hid (show plOld x = 1 from by unfold plOld; rw [if_neg c1])
    have s1 : (fnvSize (x % 256) == 0) = true := by rw [size0]; simp; omega
    by_cases c2 : x / 256 % 256 = 2
    · have Hn := Lib.hid (show plNow x = x / 256 % 256 from by unfold plNow; rw [if_pos ⟨by rw [Ho.out]; exact c2, by omega⟩])
      have s2 : (fnvSize (x / 256 % 256) == 0) = false := by rw [size0]; simp; omega
      have d2 : (x / 256 % 256 != 2) = false := by rw [c2]; rfl
      rw [Ho.out, Hn.out]
      clear c2 c1
      go_enter Tryz.func21, Tryz.ntmps21
      go_wp2_with (go_at_call 27; refine (c_Size _ _ (by omega) (by omega)).mono ?_; rintro e w' ⟨rfl, rfl⟩)
      go_ret2
      exact ⟨rfl, rfl⟩
    · have Hn := Lib.hid (show plNow x = 0 from by unfold plNow; rw [if_neg (by rw [Ho.out]; omega)])
      have d2 : (x / 256 % 256 != 2) = true := by rw [bne_iff_ne]; exact c2
      rw [Ho.out, Hn.out]
      clear c2 c1
      go_enter Tryz.func21, Tryz.ntmps21
      go_wp2_with (go_at_call 27; refine (c_Size _ _ (by omega) (by omega)).mono ?_; rintro e w' ⟨rfl, rfl⟩)
      go_ret2
      exact ⟨rfl, rfl⟩

theorem c_there (b k : Int) (w : World) (b0 : -9223372036854775808 ≤ b) (b1 : b ≤ 9223372036854775807) (k0 : -9223372036854775808 ≤ k) (k1 : k ≤ 9223372036854775807) :
    Calls Tryz.prog 108 #[.agg #[.int .i64 b, .int .i64 k]] w fun e w' => e = .returned (.bool (decide (0 ≤ k ∧ k < fnvSize b))) ∧ Below w.heap.size w w' := by
  have hs := fnvSize_bd b
  by_cases c1 : 0 ≤ k
  · have d1 : decide (0 ≤ k) = true := by simpa using c1
    by_cases c2 : k < fnvSize b
    · have d2 : decide (k < fnvSize b) = true := by simpa using c2
      rw [decide_eq_true (⟨c1, c2⟩ : 0 ≤ k ∧ k < fnvSize b)]
      go_enter Tryz.func108, Tryz.ntmps108
      go_wp2
      go_quiet ((go_at_call 27; exact quietS (c_Size _ _ b0 b1)))
      go_wp2
      go_ret
      exact ⟨rfl, below_drewN ((Below.refl _ _).alloc (Nat.le_refl _) _) _⟩
    · have d2 : decide (k < fnvSize b) = false := by simpa using c2
      rw [decide_eq_false (show ¬ (0 ≤ k ∧ k < fnvSize b) by omega)]
      go_enter Tryz.func108, Tryz.ntmps108
      go_wp2
      go_quiet ((go_at_call 27; exact quietS (c_Size _ _ b0 b1)))
      go_wp2
      go_ret
      exact ⟨rfl, below_drewN ((Below.refl _ _).alloc (Nat.le_refl _) _) _⟩
  · have d1 : decide (0 ≤ k) = false := by simpa using c1
    rw [decide_eq_false (show ¬ (0 ≤ k ∧ k < fnvSize b) by omega)]
    go_enter Tryz.func108, Tryz.ntmps108
    go_wp2
    go_quiet ((go_at_call 27; exact quietS (c_Size _ _ b0 b1)))
    go_wp2
    go_ret
    exact ⟨rfl, below_drewN ((Below.refl _ _).alloc (Nat.le_refl _) _) _⟩

theorem c_Tags (b k : Int) (w : World) (b0 : -9223372036854775808 ≤ b) (b1 : b ≤ 9223372036854775807) (k0 : -9223372036854775808 ≤ k) (k1 : k ≤ 9223372036854775807) :
    Calls Tryz.prog 37 #[.agg #[.int .i64 b, .int .i64 k]] w fun e w' => e = .returned (.int .u64 (plTags b k)) ∧ Below w.heap.size w w' := by
  have hs := fnvSize_bd b
  by_cases c : 0 ≤ k ∧ k < fnvSize b
  · have Ht := Lib.hid (plTags_in c)
    have d := decide_eq_true c
    rw [Ht.out]
    obtain ⟨ca, cb⟩ := c
    go_enter Tryz.func37, Tryz.ntmps37
    go_wp2_with fail
    refine (c_there _ _ _ b0 b1 k0 k1).mono ?_
    rintro e w' ⟨rfl, hb⟩
    have q0 : w'.cell? ⟨w.heap.size, 0, none⟩ = some (.int .i64 b) := by rw [hb.cell (p := ⟨w.heap.size, 0, none⟩) (by simp)]; simp
    have q1 : w'.cell? ⟨w.heap.size, 1, none⟩ = some (.int .i64 k) := by rw [hb.cell (p := ⟨w.heap.size, 1, none⟩) (by simp)]; simp
    go_wp2_with fail
    go_quiet ((go_at_call 27; exact quietS (c_Size _ _ b0 b1)))
    go_wp2
    go_ret
    exact ⟨by simp, below_drewN (((Below.refl _ _).alloc (Nat.le_refl _) _).trans (hb.mono (by simp))) _⟩
  · have d := decide_eq_false c
    rw [plTags_out c]
    clear c
    go_enter Tryz.func37, Tryz.ntmps37
    go_wp2_with (go_at_call 108; refine (c_there _ _ _ b0 b1 k0 k1).mono ?_; rintro e w' ⟨rfl, hb⟩)
    go_ret
    exact ⟨rfl, ((Below.refl _ _).alloc (Nat.le_refl _) _).trans (hb.mono (by simp))⟩

end Go.Proofs.YtkpkhibknaoboaaGreat
