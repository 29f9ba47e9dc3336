/- Contracts of layer 7's functions: a tick, a flush. -/
import Derived.Test.YtijifjiehldcaaaGreatEpW2
namespace Go.Proofs.YtijifjiehldcaaaGreat
set_option linter.unusedSimpArgs false
open Go.RowKit
set_option linter.unusedVariables false

set_option maxHeartbeats 2000000 in
theorem c_Tick (x : Int) (w : World) (x0 : 0 ≤ x) (x1 : x ≤ 18446744073709551615) :
    Calls Tryz.prog 112 #[.int .u64 x] w fun e w' => e = .returned (.int .u64 (epTick x)) ∧ Below w.heap.size w w' := by
  have hn := epNow_bd x
  have ha := epAt_bd x
  have hg := epGen_bd x0 x1
  have ht : (epNow x < 16777215 ∧ epTickNow x = epNow x + 1) ∨ (¬ epNow x < 16777215 ∧ epTickNow x = 16777215) := by unfold epTickNow; split <;> omega
  by_cases d : 0 < epAt x
  · by_cases d2 : epAt x ≤ epTickNow x
    · have hd : epDue x = true := by unfold epDue; rw [decide_eq_true_eq]; exact ⟨d, d2⟩
      have Hg := Lib.hid (show epTick x = epPut (epTickNow x) 0 (if epGen x < 65535 then epGen x + 1 else 65535) by unfold epTick; rw [if_pos hd])
      rw [Hg.out]
      clear hd Hg
      by_cases g : epGen x < 65535
      · rw [if_pos g]
        rcases ht with ⟨t1, t2⟩ | ⟨t1, t2⟩
        all_goals
          rw [t2] at d2 ⊢
          clear t2
          go_enter Tryz.func112, Tryz.ntmps112
          go_wp2_with (first | (go_at_call 110; refine (viaC (c_said _ _ x0 x1)).mono ?_; rintro e w' ⟨rfl, m, rfl⟩) | (go_at_call 113; refine (viaC (c_word _ _ _ _ (by omega) (by omega) (by omega) (by omega) (by omega) (by omega))).mono ?_; rintro e w' ⟨rfl, m2, rfl⟩))
          all_goals (go_ret; exact ⟨rfl, below_via ((below_via (Below.refl _ _) _).alloc (by simp) _) _⟩)
      · rw [if_neg g]
        rcases ht with ⟨t1, t2⟩ | ⟨t1, t2⟩
        all_goals
          rw [t2] at d2 ⊢
          clear t2
          go_enter Tryz.func112, Tryz.ntmps112
          go_wp2_with (first | (go_at_call 110; refine (viaC (c_said _ _ x0 x1)).mono ?_; rintro e w' ⟨rfl, m, rfl⟩) | (go_at_call 113; refine (viaC (c_word _ _ _ _ (by omega) (by omega) (by omega) (by omega) (by omega) (by omega))).mono ?_; rintro e w' ⟨rfl, m2, rfl⟩))
          all_goals (go_ret; exact ⟨rfl, below_via ((below_via (Below.refl _ _) _).alloc (by simp) _) _⟩)
    · have hd : epDue x = false := by unfold epDue; rw [decide_eq_false_iff_not]; omega
      have Hg := Lib.hid (show epTick x = epPut (epTickNow x) (epAt x) (epGen x) by unfold epTick; rw [if_neg (by rw [hd]; decide)])
      rw [Hg.out]
      clear hd Hg
      rcases ht with ⟨t1, t2⟩ | ⟨t1, t2⟩
      rotate_left
      · exfalso; omega
      all_goals
        rw [t2] at d2 ⊢
        clear t2
        go_enter Tryz.func112, Tryz.ntmps112
        go_wp2_with (first | (go_at_call 110; refine (viaC (c_said _ _ x0 x1)).mono ?_; rintro e w' ⟨rfl, m, rfl⟩) | (go_at_call 113; refine (viaC (c_word _ _ _ _ (by omega) (by omega) (by omega) (by omega) (by omega) (by omega))).mono ?_; rintro e w' ⟨rfl, m2, rfl⟩))
        all_goals (go_ret; exact ⟨rfl, below_via ((below_via (Below.refl _ _) _).alloc (by simp) _) _⟩)
  · have hd : epDue x = false := by unfold epDue; rw [decide_eq_false_iff_not]; omega
    have Hg := Lib.hid (show epTick x = epPut (epTickNow x) (epAt x) (epGen x) by unfold epTick; rw [if_neg (by rw [hd]; decide)])
    rw [Hg.out]
    clear hd Hg
    have e0 : epAt x = 0 := by omega
    rw [e0]
    clear d ha
    rcases ht with ⟨t1, t2⟩ | ⟨t1, t2⟩
    all_goals
      rw [t2]
      clear t2
      go_enter Tryz.func112, Tryz.ntmps112
      go_wp2_with (first | (go_at_call 110; refine (viaC (c_said _ _ x0 x1)).mono ?_; rintro e w' ⟨rfl, m, rfl⟩) | (go_at_call 113; refine (viaC (c_word _ _ _ _ (by omega) (by omega) (by omega) (by omega) (by omega) (by omega))).mono ?_; rintro e w' ⟨rfl, m2, rfl⟩))
      all_goals (go_ret; exact ⟨rfl, below_via ((below_via (Below.refl _ _) _).alloc (by simp) _) _⟩)

set_option maxHeartbeats 2000000 in
theorem c_Flush (x d : Int) (w : World) (x0 : 0 ≤ x) (x1 : x ≤ 18446744073709551615) (d0 : -9223372036854775808 ≤ d) (d1 : d ≤ 9223372036854775807) :
    Calls Tryz.prog 118 #[.int .u64 x, .int .i64 d] w fun e w' => e = .returned (.tuple #[.int .u64 (epFlush x d), .bool (epFlushOk x)]) ∧ Below w.heap.size w w' := by
  have hn := epNow_bd x
  have ha := epAt_bd x
  have hg := epGen_bd x0 x1
  by_cases g : epGen x = 65535
  · have g' : (epGen x == 65535) = true := by rw [g]; rfl
    have e1 : epFlush x d = x := by unfold epFlush; rw [if_pos g]
    have e2 : epFlushOk x = false := by unfold epFlushOk; rw [decide_eq_false_iff_not]; simp [g]
    rw [e1, e2]
    clear e1 e2 g
    go_enter Tryz.func118, Tryz.ntmps118
    go_wp2_with (first | (go_at_call 110; refine (viaC (c_said _ _ x0 x1)).mono ?_; rintro e w' ⟨rfl, m, rfl⟩) | (go_at_call 113; refine (viaC (c_word _ _ _ _ (by omega) (by omega) (by omega) (by omega) (by omega) (by omega))).mono ?_; rintro e w' ⟨rfl, m2, rfl⟩))
    go_ret2
    exact ⟨rfl, (below_via (Below.refl _ _) _).alloc (by simp) _⟩
  · have g' : (epGen x == 65535) = false := beq_eq_false_iff_ne.2 g
    have e2 : epFlushOk x = true := by unfold epFlushOk; rw [decide_eq_true_eq]; exact g
    rw [e2]
    by_cases c : 0 < d
    · have e1 : epFlush x d = epPut (epNow x) (if d < 16777215 - epNow x then epNow x + d else 16777215) (epGen x) := by unfold epFlush; rw [if_neg g, if_neg (by omega)]
      rw [e1]
      clear e1 e2 g
      by_cases c2 : d < 16777215 - epNow x
      · rw [if_pos c2]
        go_enter Tryz.func118, Tryz.ntmps118
        go_wp2_with (first | (go_at_call 110; refine (viaC (c_said _ _ x0 x1)).mono ?_; rintro e w' ⟨rfl, m, rfl⟩) | (go_at_call 113; refine (viaC (c_word _ _ _ _ (by omega) (by omega) (by omega) (by omega) (by omega) (by omega))).mono ?_; rintro e w' ⟨rfl, m2, rfl⟩))
        all_goals (go_ret2; exact ⟨rfl, below_via ((below_via (Below.refl _ _) _).alloc (by simp) _) _⟩)
      · rw [if_neg c2]
        have e3 : epNow x + (16777215 - epNow x) = 16777215 := by omega
        by_cases c3 : d = 16777215 - epNow x
        · subst c3
          go_enter Tryz.func118, Tryz.ntmps118
          go_wp2_with (first | (go_at_call 110; refine (viaC (c_said _ _ x0 x1)).mono ?_; rintro e w' ⟨rfl, m, rfl⟩) | (go_at_call 113; refine (viaC (c_word _ _ _ _ (by omega) (by omega) (by omega) (by omega) (by omega) (by omega))).mono ?_; rintro e w' ⟨rfl, m2, rfl⟩))
          all_goals (go_ret2; exact ⟨rfl, below_via ((below_via (Below.refl _ _) _).alloc (by simp) _) _⟩)
        · have c4 : 16777215 - epNow x < d := by omega
          clear c3
          go_enter Tryz.func118, Tryz.ntmps118
          go_wp2_with (first | (go_at_call 110; refine (viaC (c_said _ _ x0 x1)).mono ?_; rintro e w' ⟨rfl, m, rfl⟩) | (go_at_call 113; refine (viaC (c_word _ _ _ _ (by omega) (by omega) (by omega) (by omega) (by omega) (by omega))).mono ?_; rintro e w' ⟨rfl, m2, rfl⟩))
          all_goals (go_ret2; exact ⟨rfl, below_via ((below_via (Below.refl _ _) _).alloc (by simp) _) _⟩)
    · have e1 : epFlush x d = epPut (epNow x) 0 (epGen x + 1) := by unfold epFlush; rw [if_neg g, if_pos (by omega)]
      rw [e1]
      clear e1 e2 g
      go_enter Tryz.func118, Tryz.ntmps118
      go_wp2_with (first | (go_at_call 110; refine (viaC (c_said _ _ x0 x1)).mono ?_; rintro e w' ⟨rfl, m, rfl⟩) | (go_at_call 113; refine (viaC (c_word _ _ _ _ (by omega) (by omega) (by omega) (by omega) (by omega) (by omega))).mono ?_; rintro e w' ⟨rfl, m2, rfl⟩))
      all_goals (go_ret2; exact ⟨rfl, below_via ((below_via (Below.refl _ _) _).alloc (by simp) _) _⟩)

end Go.Proofs.YtijifjiehldcaaaGreat
