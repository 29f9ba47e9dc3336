/- The laws EpochsStored, EpochsDelay. -/
import Derived.Test.YtcgjopjjmgpobaaEpDead
namespace Go.Proofs.Ytcgjopjjmgpobaa
open Go.RowKit
set_option linter.unusedVariables false

theorem c_stored (x t : Int) (w : World) (x0 : 0 ≤ x) (x1 : x ≤ 18446744073709551615) (t0 : -9223372036854775808 ≤ t) (t1 : t ≤ 9223372036854775807) :
    Calls Try.prog 32 #[.int .u64 x, .int .i64 t] w fun e w' => e = .returned (.agg #[.string ⟨#[]⟩, .string ⟨#[]⟩, .int .u32 0, .int .u64 0, .int .i64 (epDies x t), .int .i64 (epGen x)]) ∧ Below w.heap.size w w' := by
  have vv := via_via
  go_enter Try.func32, Try.ntmps32
  go_wp2_with (first | (go_at_call 21; refine (viaC (c_Gen _ _ x0 x1)).mono ?_; rintro e w' ⟨rfl, m, rfl⟩) | (go_at_call 30; refine (viaC (c_Dies _ _ _ x0 x1 t0 t1)).mono ?_; rintro e w' ⟨rfl, m, rfl⟩))
  refine bodyPost_ret (v := .agg #[.string ⟨#[]⟩, .string ⟨#[]⟩, .int .u32 0, .int .u64 0, .int .i64 (epDies x t), .int .i64 (epGen x)]) ?_ rfl ⟨rfl, ?_⟩
  · simp [results, Try.results32, go_sem]
  · repeat (first | (with_reducible exact Below.refl _ _) | (with_reducible refine below_via ?_ _) | (with_reducible refine below_alloc ?_ _) | (with_reducible refine below_setCell ?_ (by simp) _ _))

def epPast (x t : Int) : Bool := decide (t < 0 ∨ (2592000 < t ∧ t ≤ epNow x))
theorem stored_alive {x t : Int} (x0 : 0 ≤ x) (x1 : x ≤ 18446744073709551615) : epAlive (epDies x t) (epGen x) x = !epPast x t := by
  have hn := epNow_bd x
  unfold epAlive epPast epDies
  by_cases h : t = 0
  · simp [h]
  · rw [if_neg h]
    by_cases h2 : t < 0
    · rw [if_pos h2]; simp [h2]; omega
    · rw [if_neg h2]
      by_cases h3 : t ≤ 2592000
      · rw [if_pos h3, decide_eq_true (show epGen x = epGen x ∧ (epNow x + t = -1 ∨ epNow x < epNow x + t) from ⟨rfl, by omega⟩), decide_eq_false (show ¬ (t < 0 ∨ 2592000 < t ∧ t ≤ epNow x) by omega)]; rfl
      · rw [if_neg h3]
        by_cases h4 : t ≤ epNow x
        · rw [decide_eq_false (show ¬ (epGen x = epGen x ∧ (t = -1 ∨ epNow x < t)) by omega), decide_eq_true (show t < 0 ∨ 2592000 < t ∧ t ≤ epNow x by omega)]; rfl
        · rw [decide_eq_true (show epGen x = epGen x ∧ (t = -1 ∨ epNow x < t) from ⟨rfl, by omega⟩), decide_eq_false (show ¬ (t < 0 ∨ 2592000 < t ∧ t ≤ epNow x) by omega)]; rfl
theorem dies_now {D g : Int} (h1 : 1 ≤ D) (h2 : D ≤ 16777215) (g0 : 0 ≤ g) (g1 : g ≤ 65535) : epAlive D g (epPut D 0 g) = false ∧ epAlive D g (epPut (D - 1) 0 g) = true := by
  unfold epAlive
  rw [epGen_put, epNow_put, epGen_put, epNow_put]
  rw [decide_eq_false_iff_not, decide_eq_true_eq]
  omega

theorem epDies_bd {x t : Int} (t0 : -9223372036854775808 ≤ t) (t1 : t ≤ 9223372036854775807) : -1 ≤ epDies x t ∧ epDies x t ≤ 9223372036854775807 := by
  have hn := epNow_bd x
  unfold epDies
  split
  · omega
  · split
    · omega
    · split <;> omega

set_option maxHeartbeats 2000000 in
theorem w_EpochsStored (x t : Int) (w : World) (x0 : 0 ≤ x) (x1 : x ≤ 18446744073709551615) (t0 : -9223372036854775808 ≤ t) (t1 : t ≤ 9223372036854775807) :
    Calls Try.prog 7 #[.int .u64 x, .int .i64 t] w fun e w' => e = .returned (.bool true) ∧ Below w.heap.size w w' := by
  have vv := via_via
  have hn := epNow_bd x
  have hg := epGen_bd x0 x1
  have hs := stored_alive (t := t) x0 x1
  have hb := epDies_bd (x := x) t0 t1
  have hp : (t < 0 ∧ epPast x t = true) ∨ (0 ≤ t ∧ 2592000 < t ∧ t ≤ epNow x ∧ epPast x t = true) ∨ (0 ≤ t ∧ 2592000 < t ∧ epNow x < t ∧ epPast x t = false) ∨ (0 ≤ t ∧ t ≤ 2592000 ∧ epPast x t = false) := by
    unfold epPast
    simp only [decide_eq_true_eq, decide_eq_false_iff_not]
    omega
  obtain ⟨D, hD⟩ : ∃ D, epDies x t = D := ⟨_, rfl⟩
  rw [hD] at hs hb
  have hd : D < 1 ∨ (1 ≤ D ∧ 16777215 < D) ∨ (1 ≤ D ∧ D ≤ 16777215 ∧ epAlive D (epGen x) (epPut D 0 (epGen x)) = false ∧ epAlive D (epGen x) (epPut (D - 1) 0 (epGen x)) = true) := by
    by_cases h1 : D < 1
    · left; exact h1
    · by_cases h2 : 16777215 < D
      · right; left; omega
      · right; right
        have := dies_now (D := D) (g := epGen x) (by omega) (by omega) hg.1 hg.2
        exact ⟨by omega, by omega, this.1, this.2⟩
  have pb1 := fun n a g => (epPut_bd n a g).1
  have pb2 := fun n a g => (epPut_bd n a g).2
  have Pb := Lib.hid (And.intro pb1 pb2)
  clear pb1 pb2
  rcases hp with ⟨p1, p⟩ | ⟨p1, p2, p3, p⟩ | ⟨p1, p2, p3, p⟩ | ⟨p1, p2, p⟩
  all_goals rw [p] at hs; clear p
  all_goals rcases hd with d1 | ⟨d1, d2⟩ | ⟨d1, d2, d3, d4⟩
  all_goals
    go_enter Try.func7, Try.ntmps7
    go_wp2_with (first | (go_at_call 32; refine (viaC (c_stored _ _ _ x0 x1 t0 t1)).mono ?_; rintro e w' ⟨rfl, ms, rfl⟩) | (go_at_call 17; refine (viaC (c_Now _ _ x0 x1)).mono ?_; rintro e w' ⟨rfl, mn, rfl⟩) | (go_at_call 28; refine (viaC (c_Alive _ _ _ _ _ _ _ _ x0 x1)).mono ?_; rintro e w' ⟨rfl, ma, rfl⟩) | (go_at_call 27; refine (viaC (c_lives07 _)).mono ?_; rintro e w' ⟨rfl, m, rfl⟩))
    first
      | (go_ret; exact ⟨rfl, by repeat (first | (with_reducible exact Below.refl _ _) | (with_reducible refine below_via ?_ _) | (with_reducible refine below_alloc ?_ _) | (with_reducible refine below_setCell ?_ (by simp) _ _))⟩)
      | (refine gen_world (P := Code.wp Try.prog _ _ _) (fun W => ItemAt W (via w ms).heap.size ⟨#[]⟩ ⟨#[]⟩ 0 0 D (epGen x) ∧ (via w ms).heap.size < W.heap.size ∧ Below w.heap.size w W) (fun W hC => ?_) ?_
         rotate_left
         · refine ⟨by unfold ItemAt; simp [go_sem], by simp [go_sem], by repeat (first | (with_reducible exact Below.refl _ _) | (with_reducible refine below_via ?_ _) | (with_reducible refine below_alloc ?_ _) | (with_reducible refine below_setCell ?_ (by simp) _ _))⟩
         · generalize (via w ms).heap.size = b at *
           obtain ⟨⟨q0, q1, q2, q3, q4, q5⟩, hz, hB⟩ := hC
           refine wp_region_via (by kernel_rfl) (by kernel_rfl) ?_
           repeat (go_big_quiet_step ((first | (go_at_call 23; exact viaB (c_Put _ _ _ _ (by omega) (by omega) (by omega) (by omega) (by omega) (by omega))) | (go_at_call 28; exact viaB (c_Alive _ _ _ _ _ _ _ _ (epPut_bd _ _ _).1 (epPut_bd _ _ _).2)) | (go_at_call 27; exact viaB (c_lives07 _)))))
           refine wpQuiet_nil ?_
           rintro _ ⟨e, rfl⟩
           go_wp2
           go_ret
           exact ⟨rfl, below_via hB _⟩)
end Go.Proofs.Ytcgjopjjmgpobaa
