/- Contracts of the document's functions of layer 7, but for Dies and Alive. -/
import Derived.Test.YtijifjiehldcaaaGreatEpW2
namespace Go.Proofs.YtijifjiehldcaaaGreat
set_option linter.unusedSimpArgs false
open Go.RowKit
set_option linter.unusedVariables false

theorem c_rNow (x : Int) (w : World) (x0 : 0 ≤ x) (x1 : x ≤ 18446744073709551615) :
    Calls Tryz.prog 122 #[.int .u64 x] w fun e w' => e = .returned (.int .i64 (epNow x)) ∧ w = w' := by
  unfold epNow
  go_enter Tryz.func122, Tryz.ntmps122
  go_wp2
  go_ret
  exact ⟨rfl, rfl⟩
theorem c_rAt (x : Int) (w : World) (x0 : 0 ≤ x) (x1 : x ≤ 18446744073709551615) :
    Calls Tryz.prog 151 #[.int .u64 x] w fun e w' => e = .returned (.int .i64 (epAt x)) ∧ w = w' := by
  unfold epAt
  go_enter Tryz.func151, Tryz.ntmps151
  go_wp2
  go_ret
  exact ⟨rfl, rfl⟩
theorem c_rGen (x : Int) (w : World) (x0 : 0 ≤ x) (x1 : x ≤ 18446744073709551615) :
    Calls Tryz.prog 123 #[.int .u64 x] w fun e w' => e = .returned (.int .i64 (epGen x)) ∧ w = w' := by
  have h : x / 281474976710656 = x / 16777216 / 16777216 := by omega
  unfold epGen
  rw [h]
  go_enter Tryz.func123, Tryz.ntmps123
  go_wp2
  go_ret
  exact ⟨rfl, rfl⟩
theorem c_rPut (n a g : Int) (w : World) (n0 : -9223372036854775808 ≤ n) (n1 : n ≤ 9223372036854775807) (a0 : -9223372036854775808 ≤ a) (a1 : a ≤ 9223372036854775807) (g0 : -9223372036854775808 ≤ g) (g1 : g ≤ 9223372036854775807) :
    Calls Tryz.prog 124 #[.int .i64 n, .int .i64 a, .int .i64 g] w fun e w' => e = .returned (.int .u64 (epPut n a g)) ∧ w = w' := by
  go_enter Tryz.func124, Tryz.ntmps124
  go_wp2
  go_ret
  exact ⟨ret_int (by
    unfold epPut
    simp only [IntKind.wrap_u64]
    rw [Int.tmod_eq_emod_of_nonneg (by omega), Int.tmod_eq_emod_of_nonneg (by omega), Int.tmod_eq_emod_of_nonneg (by omega)]
    omega), rfl⟩
set_option maxHeartbeats 2000000 in
theorem c_rTick (x : Int) (w : World) (x0 : 0 ≤ x) (x1 : x ≤ 18446744073709551615) :
    Calls Tryz.prog 120 #[.int .u64 x] w fun e w' => e = .returned (.int .u64 (epTick x)) ∧ w = w' := by
  have hn := epNow_bd x
  have ha := epAt_bd x
  have hg := epGen_bd x0 x1
  have ht : (epNow x < 16777215 ∧ epTickNow x = epNow x + 1) ∨ (¬ epNow x < 16777215 ∧ epTickNow x = epNow x) := by unfold epTickNow; split <;> omega
  have hc : (0 < epAt x ∧ epAt x ≤ epTickNow x ∧ epGen x < 65535 ∧ epTick x = epPut (epTickNow x) 0 (epGen x + 1)) ∨ (0 < epAt x ∧ epAt x ≤ epTickNow x ∧ ¬ epGen x < 65535 ∧ epTick x = epPut (epTickNow x) 0 (epGen x)) ∨ (0 < epAt x ∧ ¬ epAt x ≤ epTickNow x ∧ epTick x = epPut (epTickNow x) (epAt x) (epGen x)) ∨ (epAt x = 0 ∧ epTick x = epPut (epTickNow x) 0 (epGen x)) := by
    unfold epTick epDue
    by_cases c1 : 0 < epAt x
    · by_cases c2 : epAt x ≤ epTickNow x
      · rw [if_pos (by rw [decide_eq_true_eq]; exact ⟨c1, c2⟩)]
        by_cases c3 : epGen x < 65535
        · left; exact ⟨c1, c2, c3, by rw [if_pos c3]⟩
        · right; left; exact ⟨c1, c2, c3, by rw [if_neg c3, show epGen x = 65535 by omega]⟩
      · right; right; left
        rw [if_neg (by rw [decide_eq_true_eq]; omega)]
        exact ⟨c1, c2, rfl⟩
    · right; right; right
      rw [if_neg (by rw [decide_eq_true_eq]; omega)]
      exact ⟨by omega, by rw [show epAt x = 0 by omega]⟩
  rcases ht with ⟨t1, t2⟩ | ⟨t1, t2⟩
  all_goals rw [t2] at hc; clear t2
  all_goals rcases hc with ⟨c1, c2, c3, e⟩ | ⟨c1, c2, c3, e⟩ | ⟨c1, c2, e⟩ | ⟨c1, e⟩
  all_goals
    rw [e]
    clear e
    go_enter Tryz.func120, Tryz.ntmps120
    go_wp2_with (first | (go_at_call 122; refine (c_rNow _ _ x0 x1).mono ?_; rintro e w' ⟨rfl, rfl⟩) | (go_at_call 151; refine (c_rAt _ _ x0 x1).mono ?_; rintro e w' ⟨rfl, rfl⟩) | (go_at_call 123; refine (c_rGen _ _ x0 x1).mono ?_; rintro e w' ⟨rfl, rfl⟩) | (go_at_call 124; refine (c_rPut _ _ _ _ (by omega) (by omega) (by omega) (by omega) (by omega) (by omega)).mono ?_; rintro e w' ⟨rfl, rfl⟩))
    all_goals (go_ret; exact ⟨rfl, rfl⟩)

set_option maxHeartbeats 2000000 in
theorem c_rFlush (x d : Int) (w : World) (x0 : 0 ≤ x) (x1 : x ≤ 18446744073709551615) (d0 : -9223372036854775808 ≤ d) (d1 : d ≤ 9223372036854775807) :
    Calls Tryz.prog 78 #[.int .u64 x, .int .i64 d] w fun e w' => e = .returned (.tuple #[.int .u64 (epFlush x d), .bool (epFlushOk x)]) ∧ w = w' := by
  have hn := epNow_bd x
  have hg := epGen_bd x0 x1
  have hc : ((epGen x == 65535) = true ∧ epFlush x d = x ∧ epFlushOk x = false) ∨ ((epGen x == 65535) = false ∧ epGen x < 65535 ∧ d < 1 ∧ epFlush x d = epPut (epNow x) 0 (epGen x + 1) ∧ epFlushOk x = true) ∨ ((epGen x == 65535) = false ∧ ¬ d < 1 ∧ d < 16777215 - epNow x ∧ epFlush x d = epPut (epNow x) (epNow x + d) (epGen x) ∧ epFlushOk x = true) ∨ ((epGen x == 65535) = false ∧ ¬ d < 1 ∧ ¬ d < 16777215 - epNow x ∧ epFlush x d = epPut (epNow x) 16777215 (epGen x) ∧ epFlushOk x = true) := by
    unfold epFlush epFlushOk
    by_cases g : epGen x = 65535
    · left; exact ⟨by rw [g]; rfl, by rw [if_pos g], by rw [decide_eq_false_iff_not]; simp [g]⟩
    · have g' : (epGen x == 65535) = false := beq_eq_false_iff_ne.2 g
      have ok : decide (epGen x ≠ 65535) = true := by rw [decide_eq_true_eq]; exact g
      rw [if_neg g]
      by_cases c : d < 1
      · right; left; exact ⟨g', by omega, c, by rw [if_pos c], ok⟩
      · rw [if_neg c]
        by_cases c2 : d < 16777215 - epNow x
        · right; right; left; exact ⟨g', c, c2, by rw [if_pos c2], ok⟩
        · right; right; right; exact ⟨g', c, c2, by rw [if_neg c2], ok⟩
  rcases hc with ⟨c1, e1, e2⟩ | ⟨c1, c2, c3, e1, e2⟩ | ⟨c1, c2, c3, e1, e2⟩ | ⟨c1, c2, c3, e1, e2⟩
  all_goals
    rw [e1, e2]
    clear e1 e2
    go_enter Tryz.func78, Tryz.ntmps78
    go_wp2_with (first | (go_at_call 122; refine (c_rNow _ _ x0 x1).mono ?_; rintro e w' ⟨rfl, rfl⟩) | (go_at_call 123; refine (c_rGen _ _ x0 x1).mono ?_; rintro e w' ⟨rfl, rfl⟩) | (go_at_call 124; refine (c_rPut _ _ _ _ (by omega) (by omega) (by omega) (by omega) (by omega) (by omega)).mono ?_; rintro e w' ⟨rfl, rfl⟩))
    go_ret2
    exact ⟨rfl, rfl⟩

end Go.Proofs.YtijifjiehldcaaaGreat
