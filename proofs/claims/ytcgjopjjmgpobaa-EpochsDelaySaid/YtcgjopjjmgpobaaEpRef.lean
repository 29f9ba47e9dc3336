/- Contracts of the document's functions of layer 7. -/
import Derived.Test.YtcgjopjjmgpobaaEpWalks
namespace Go.Proofs.Ytcgjopjjmgpobaa
open Go.RowKit
set_option linter.unusedVariables false

theorem c_rNow (x : Int) (w : World) (x0 : 0 ≤ x) (x1 : x ≤ 18446744073709551615) :
    Calls Try.prog 18 #[.int .u64 x] w fun e w' => e = .returned (.int .i64 (epNow x)) ∧ w = w' := by
  unfold epNow
  go_enter Try.func18, Try.ntmps18
  go_wp2
  go_ret
  exact ⟨rfl, rfl⟩
theorem c_rAt (x : Int) (w : World) (x0 : 0 ≤ x) (x1 : x ≤ 18446744073709551615) :
    Calls Try.prog 20 #[.int .u64 x] w fun e w' => e = .returned (.int .i64 (epAt x)) ∧ w = w' := by
  unfold epAt
  go_enter Try.func20, Try.ntmps20
  go_wp2
  go_ret
  exact ⟨rfl, rfl⟩
theorem c_rGen (x : Int) (w : World) (x0 : 0 ≤ x) (x1 : x ≤ 18446744073709551615) :
    Calls Try.prog 22 #[.int .u64 x] w fun e w' => e = .returned (.int .i64 (epGen x)) ∧ w = w' := by
  have h : x / 281474976710656 = x / 16777216 / 16777216 := by omega
  unfold epGen
  rw [h]
  go_enter Try.func22, Try.ntmps22
  go_wp2
  go_ret
  exact ⟨rfl, rfl⟩
theorem c_rPut (n a g : Int) (w : World) (n0 : -9223372036854775808 ≤ n) (n1 : n ≤ 9223372036854775807) (a0 : -9223372036854775808 ≤ a) (a1 : a ≤ 9223372036854775807) (g0 : -9223372036854775808 ≤ g) (g1 : g ≤ 9223372036854775807) :
    Calls Try.prog 24 #[.int .i64 n, .int .i64 a, .int .i64 g] w fun e w' => e = .returned (.int .u64 (epPut n a g)) ∧ w = w' := by
  go_enter Try.func24, Try.ntmps24
  go_wp2
  go_ret
  exact ⟨ret_int (by
    unfold epPut
    simp only [IntKind.wrap_u64]
    rw [Int.tmod_eq_emod_of_nonneg (by omega), Int.tmod_eq_emod_of_nonneg (by omega), Int.tmod_eq_emod_of_nonneg (by omega)]
    omega), rfl⟩
theorem c_rDies (x t : Int) (w : World) (x0 : 0 ≤ x) (x1 : x ≤ 18446744073709551615) (t0 : -9223372036854775808 ≤ t) (t1 : t ≤ 9223372036854775807) :
    Calls Try.prog 31 #[.int .u64 x, .int .i64 t] w fun e w' => e = .returned (.int .i64 (epDies x t)) ∧ w = w' := by
  have hn := epNow_bd x
  have hc : (t == 0) = true ∧ epDies x t = -1 ∨ (t == 0) = false ∧ t < 0 ∧ epDies x t = epNow x ∨ (t == 0) = false ∧ ¬ t < 0 ∧ t ≤ 2592000 ∧ epDies x t = epNow x + t ∨ (t == 0) = false ∧ ¬ t < 0 ∧ ¬ t ≤ 2592000 ∧ epDies x t = t := by
    unfold epDies
    by_cases h : t = 0
    · left; exact ⟨by simp [h], by rw [if_pos h]⟩
    · have hb : (t == 0) = false := beq_eq_false_iff_ne.2 h
      rw [if_neg h]
      by_cases h2 : t < 0
      · right; left; exact ⟨hb, h2, by rw [if_pos h2]⟩
      · rw [if_neg h2]
        by_cases h3 : t ≤ 2592000
        · right; right; left; exact ⟨hb, h2, h3, by rw [if_pos h3]⟩
        · right; right; right; exact ⟨hb, h2, h3, by rw [if_neg h3]⟩
  rcases hc with ⟨h1, h⟩ | ⟨h1, h2, h⟩ | ⟨h1, h2, h3, h⟩ | ⟨h1, h2, h3, h⟩
  all_goals
    rw [h]
    clear h
    go_enter Try.func31, Try.ntmps31
    go_wp2_with (go_at_call 18; refine (c_rNow _ _ x0 x1).mono ?_; rintro e w' ⟨rfl, rfl⟩)
    go_ret
    exact ⟨rfl, rfl⟩

set_option maxHeartbeats 2000000 in
theorem c_rTick (x : Int) (w : World) (x0 : 0 ≤ x) (x1 : x ≤ 18446744073709551615) :
    Calls Try.prog 26 #[.int .u64 x] w fun e w' => e = .returned (.int .u64 (epTick x)) ∧ w = w' := by
  have hn := epNow_bd x
  have ha := epAt_bd x
  have hg := epGen_bd x0 x1
  have ht : (epNow x < 16777215 ∧ epTickNow x = epNow x + 1) ∨ (¬ epNow x < 16777215 ∧ epTickNow x = epNow x) := by unfold epTickNow; split <;> omega
  have hc : (0 < epAt x ∧ epAt x ≤ epTickNow x ∧ epGen x < 65535 ∧ epTick x = epPut (epTickNow x) 0 (epGen x + 1)) ∨ (0 < epAt x ∧ epAt x ≤ epTickNow x ∧ ¬ epGen x < 65535 ∧ epTick x = epPut (epTickNow x) 0 (epGen x)) ∨ (0 < epAt x ∧ ¬ epAt x ≤ epTickNow x ∧ epTick x = epPut (epTickNow x) (epAt x) (epGen x)) ∨ (epAt x = 0 ∧ epTick x = epPut (epTickNow x) 0 (epGen x)) := by
    unfold epTick epDue
    by_cases c1 : 0 < epAt x
    · by_cases c2 : epAt x ≤ epTickNow x
      · rw [if_pos (by rw [decide_eq_true_eq]; exact ⟨c1, c2⟩)]
        by_cases c3 : epGen x < 65535
        · left; exact ⟨c1, c2, c3, by rw [if_pos c3]⟩
        · right; left; exact ⟨c1, c2, c3, by rw [if_neg c3, show epGen x = 65535 by omega]⟩
      · right; right; left
        rw [if_neg (by rw [decide_eq_true_eq]; omega)]
        exact ⟨c1, c2, rfl⟩
    · right; right; right
      rw [if_neg (by rw [decide_eq_true_eq]; omega)]
      exact ⟨by omega, by rw [show epAt x = 0 by omega]⟩
  rcases ht with ⟨t1, t2⟩ | ⟨t1, t2⟩
  all_goals rw [t2] at hc; clear t2
  all_goals rcases hc with ⟨c1, c2, c3, e⟩ | ⟨c1, c2, c3, e⟩ | ⟨c1, c2, e⟩ | ⟨c1, e⟩
  all_goals
    rw [e]
    clear e
    go_enter Try.func26, Try.ntmps26
    go_wp2_with (first | (go_at_call 18; refine (c_rNow _ _ x0 x1).mono ?_; rintro e w' ⟨rfl, rfl⟩) | (go_at_call 20; refine (c_rAt _ _ x0 x1).mono ?_; rintro e w' ⟨rfl, rfl⟩) | (go_at_call 22; refine (c_rGen _ _ x0 x1).mono ?_; rintro e w' ⟨rfl, rfl⟩) | (go_at_call 24; refine (c_rPut _ _ _ _ (by omega) (by omega) (by omega) (by omega) (by omega) (by omega)).mono ?_; rintro e w' ⟨rfl, rfl⟩))
    all_goals (go_ret; exact ⟨rfl, rfl⟩)

set_option maxHeartbeats 2000000 in
theorem c_rFlush (x d : Int) (w : World) (x0 : 0 ≤ x) (x1 : x ≤ 18446744073709551615) (d0 : -9223372036854775808 ≤ d) (d1 : d ≤ 9223372036854775807) :
    Calls Try.prog 16 #[.int .u64 x, .int .i64 d] w fun e w' => e = .returned (.tuple #[.int .u64 (epFlush x d), .bool (epFlushOk x)]) ∧ w = w' := by
  have hn := epNow_bd x
  have hg := epGen_bd x0 x1
  have hc : ((epGen x == 65535) = true ∧ epFlush x d = x ∧ epFlushOk x = false) ∨ ((epGen x == 65535) = false ∧ epGen x < 65535 ∧ d < 1 ∧ epFlush x d = epPut (epNow x) 0 (epGen x + 1) ∧ epFlushOk x = true) ∨ ((epGen x == 65535) = false ∧ ¬ d < 1 ∧ d < 16777215 - epNow x ∧ epFlush x d = epPut (epNow x) (epNow x + d) (epGen x) ∧ epFlushOk x = true) ∨ ((epGen x == 65535) = false ∧ ¬ d < 1 ∧ ¬ d < 16777215 - epNow x ∧ epFlush x d = epPut (epNow x) 16777215 (epGen x) ∧ epFlushOk x = true) := by
    unfold epFlush epFlushOk
    by_cases g : epGen x = 65535
    · left; exact ⟨by rw [g]; rfl, by rw [if_pos g], by rw [decide_eq_false_iff_not]; simp [g]⟩
    · have g' : (epGen x == 65535) = false := beq_eq_false_iff_ne.2 g
      have ok : decide (epGen x ≠ 65535) = true := by rw [decide_eq_true_eq]; exact g
      rw [if_neg g]
      by_cases c : d < 1
      · right; left; exact ⟨g', by omega, c, by rw [if_pos c], ok⟩
      · rw [if_neg c]
        by_cases c2 : d < 16777215 - epNow x
        · right; right; left; exact ⟨g', c, c2, by rw [if_pos c2], ok⟩
        · right; right; right; exact ⟨g', c, c2, by rw [if_neg c2], ok⟩
  rcases hc with ⟨c1, e1, e2⟩ | ⟨c1, c2, c3, e1, e2⟩ | ⟨c1, c2, c3, e1, e2⟩ | ⟨c1, c2, c3, e1, e2⟩
  all_goals
    rw [e1, e2]
    clear e1 e2
    go_enter Try.func16, Try.ntmps16
    go_wp2_with (first | (go_at_call 18; refine (c_rNow _ _ x0 x1).mono ?_; rintro e w' ⟨rfl, rfl⟩) | (go_at_call 22; refine (c_rGen _ _ x0 x1).mono ?_; rintro e w' ⟨rfl, rfl⟩) | (go_at_call 24; refine (c_rPut _ _ _ _ (by omega) (by omega) (by omega) (by omega) (by omega) (by omega)).mono ?_; rintro e w' ⟨rfl, rfl⟩))
    go_ret2
    exact ⟨rfl, rfl⟩

theorem c_rAlive (key val : ByteArray) (flags id dies gen x : Int) (w : World) (x0 : 0 ≤ x) (x1 : x ≤ 18446744073709551615) :
    Calls Try.prog 29 #[.agg #[.string key, .string val, .int .u32 flags, .int .u64 id, .int .i64 dies, .int .i64 gen], .int .u64 x] w fun e w' => e = .returned (.bool (epAlive dies gen x)) ∧ Below w.heap.size w w' := by
  have hc : ((gen == epGen x) = false ∧ epAlive dies gen x = false) ∨ ((gen == epGen x) = true ∧ (dies == -1) = true ∧ epAlive dies gen x = true) ∨ ((gen == epGen x) = true ∧ (dies == -1) = false ∧ epAlive dies gen x = decide (epNow x < dies)) := by
    unfold epAlive
    by_cases g : gen = epGen x
    · have g' : (gen == epGen x) = true := by simpa using g
      by_cases d : dies = -1
      · right; left; exact ⟨g', by simpa using d, by rw [decide_eq_true_eq]; exact ⟨g, .inl d⟩⟩
      · right; right; exact ⟨g', beq_eq_false_iff_ne.2 d, by rw [decide_eq_decide]; simp [g, d]⟩
    · left; exact ⟨beq_eq_false_iff_ne.2 g, by rw [decide_eq_false_iff_not]; simp [g]⟩
  rcases hc with ⟨c1, e⟩ | ⟨c1, c2, e⟩ | ⟨c1, c2, e⟩
  all_goals
    rw [e]
    clear e
    go_enter Try.func29, Try.ntmps29
    go_wp2
    refine wp_region_via (by kernel_rfl) (by kernel_rfl) ?_
    repeat (go_big_quiet_step ((first | (go_at_call 18; exact viaS (c_rNow _ _ x0 x1)) | (go_at_call 22; exact viaS (c_rGen _ _ x0 x1)))))
    refine wpQuiet_nil ?_
    rintro _ ⟨e, rfl⟩
    go_wp2
    go_ret
    exact ⟨rfl, below_via ((Below.refl _ _).alloc (Nat.le_refl _) _) _⟩
end Go.Proofs.Ytcgjopjjmgpobaa
