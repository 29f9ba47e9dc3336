/- The laws EpochsDead, EpochsStored. -/
import Derived.Test.YtcgjopjjmgpobaaEpLaws
namespace Go.Proofs.Ytcgjopjjmgpobaa
open Go.RowKit
set_option linter.unusedVariables false

theorem dead_flush {x d dies G : Int} (x0 : 0 ≤ x) (x1 : x ≤ 18446744073709551615) (hG : G ≤ epGen x) (ok : epFlushOk x = true) (hd : d < 1) : epAlive dies G (epFlush x d) = false := by
  have hg := epGen_bd x0 x1
  have g : epGen x ≠ 65535 := by unfold epFlushOk at ok; exact of_decide_eq_true ok
  unfold epAlive epFlush
  rw [if_neg g, if_pos hd, epGen_put, decide_eq_false_iff_not]
  omega
theorem gen_tick {x : Int} (x0 : 0 ≤ x) (x1 : x ≤ 18446744073709551615) : epGen x ≤ epGen (epTick x) ∧ epNow x ≤ epNow (epTick x) ∧ (epGen (epTick x) = epGen x ∨ epGen (epTick x) = epGen x + 1) := by
  have hg := epGen_bd x0 x1
  have hn := epNow_bd x
  have ht := epTickNow_bd x
  have ht2 : epNow x ≤ epTickNow x := by unfold epTickNow; split <;> omega
  unfold epTick
  split
  · rw [epGen_put, epNow_put]
    split <;> omega
  · rw [epGen_put, epNow_put]; omega
theorem gen_flush {x : Int} (d : Int) (x0 : 0 ≤ x) (x1 : x ≤ 18446744073709551615) : epGen x ≤ epGen (epFlush x d) ∧ epNow x = epNow (epFlush x d) := by
  have hg := epGen_bd x0 x1
  have hn := epNow_bd x
  unfold epFlush
  split
  · exact ⟨Int.le_refl _, rfl⟩
  · split
    · rw [epGen_put, epNow_put]; omega
    · rw [epGen_put, epNow_put]; omega
theorem dead_stays {x y dies G : Int} (hG : G ≤ epGen x) (h1 : epGen x ≤ epGen y) (h2 : epNow x ≤ epNow y) (h : epAlive dies G x = false) : epAlive dies G y = false := by
  unfold epAlive at h ⊢
  rw [decide_eq_false_iff_not] at h ⊢
  omega

/-- An item's six cells. -/
def ItemAt (W : World) (b : Nat) (key val : ByteArray) (flags id dies gen : Int) : Prop :=
  W.cell? ⟨b, 0, none⟩ = some (.string key) ∧ W.cell? ⟨b, 1, none⟩ = some (.string val) ∧ W.cell? ⟨b, 2, none⟩ = some (.int .u32 flags) ∧ W.cell? ⟨b, 3, none⟩ = some (.int .u64 id) ∧ W.cell? ⟨b, 4, none⟩ = some (.int .i64 dies) ∧ W.cell? ⟨b, 5, none⟩ = some (.int .i64 gen)
set_option maxHeartbeats 2000000 in
/-- The walk from the item's box on, whatever Gen it has by then. -/
theorem w_EpochsDead (key val : ByteArray) (flags id dies gen x d : Int) (w : World) (_ : key.size ≤ maxLen) (_ : val.size ≤ maxLen) (f0 : 0 ≤ flags) (f1 : flags ≤ 4294967295) (i0 : 0 ≤ id) (i1 : id ≤ 18446744073709551615) (e0 : -9223372036854775808 ≤ dies) (e1 : dies ≤ 9223372036854775807) (g0 : -9223372036854775808 ≤ gen) (g1 : gen ≤ 9223372036854775807) (x0 : 0 ≤ x) (x1 : x ≤ 18446744073709551615) (d0 : -9223372036854775808 ≤ d) (d1 : d ≤ 9223372036854775807) :
    Calls Try.prog 6 #[.agg #[.string key, .string val, .int .u32 flags, .int .u64 id, .int .i64 dies, .int .i64 gen], .int .u64 x, .int .i64 d] w fun e w' => e = .returned (.bool true) ∧ Below w.heap.size w w' := by
  have hg := epGen_bd x0 x1
  have ht := epTick_bd x
  have hf := epFlush_bd d x0 x1
  have hG : ∃ G : Int, G ≤ epGen x ∧ ((epGen x < gen ∧ G = epGen x) ∨ (¬ epGen x < gen ∧ G = gen)) := by
    by_cases c : epGen x < gen
    · exact ⟨epGen x, Int.le_refl _, .inl ⟨c, rfl⟩⟩
    · exact ⟨gen, by omega, .inr ⟨c, rfl⟩⟩
  obtain ⟨G, hG1, hG2⟩ := hG
  have L1 := gen_tick x0 x1
  have L2 := gen_flush d x0 x1
  have K1 : epAlive dies G x = false → epAlive dies G (epTick x) = false := dead_stays hG1 L1.1 L1.2.1
  have K2 : epAlive dies G x = false → epAlive dies G (epFlush x d) = false := dead_stays hG1 L2.1 (by omega)
  have K3 : epFlushOk x = true → d < 1 → epAlive dies G (epFlush x d) = false := fun h1 h2 => dead_flush x0 x1 hG1 h1 h2
  clear L1 L2 hG1
  have hcase : (epFlushOk x = false) ∨ (epFlushOk x = true ∧ ¬ d < 1) ∨ (epFlushOk x = true ∧ d < 1 ∧ epAlive dies G (epFlush x d) = false) := by
    cases h : epFlushOk x with
    | false => left; rfl
    | true =>
      by_cases c : d < 1
      · right; right; exact ⟨rfl, c, K3 h c⟩
      · right; left; exact ⟨rfl, c⟩
  have hcase2 : epAlive dies G x = true ∨ (epAlive dies G x = false ∧ epAlive dies G (epTick x) = false ∧ epAlive dies G (epFlush x d) = false) := by
    cases h : epAlive dies G x with
    | true => left; rfl
    | false => right; exact ⟨rfl, K1 h, K2 h⟩
  clear K1 K2 K3
  have vv := via_via
  rcases hG2 with ⟨c, rfl⟩ | ⟨c, rfl⟩
  · skip
    all_goals rcases hcase with a1 | ⟨a1, a2⟩ | ⟨a1, a2, a3⟩
    all_goals rcases hcase2 with b1 | ⟨b1, b2, b3⟩
    all_goals
      go_enter Try.func6, Try.ntmps6
      go_wp2_with (first | (go_at_call 21; refine (viaC (c_Gen _ _ x0 x1)).mono ?_; rintro e w' ⟨rfl, m, rfl⟩) | (go_at_call 15; refine (viaC (c_Flush _ _ _ x0 x1 d0 d1)).mono ?_; rintro e w' ⟨rfl, m, rfl⟩) | (go_at_call 28; refine (viaC (c_Alive _ _ _ _ _ _ _ _ (by omega) (by omega))).mono ?_; rintro e w' ⟨rfl, m, rfl⟩) | (go_at_call 27; refine (viaC (c_lives07 _)).mono ?_; rintro e w' ⟨rfl, m, rfl⟩))
      first
        | (go_ret; exact ⟨rfl, by repeat (first | exact Below.refl _ _ | (refine below_via ?_ _) | (refine below_alloc ?_ _) | (refine below_setCell ?_ (by simp) _ _))⟩)
        | (refine gen_world (P := Code.wp Try.prog _ _ _) (fun W => ItemAt W w.heap.size key val flags id dies (epGen x) ∧ w.heap.size < W.heap.size ∧ Below w.heap.size w W) (fun W hC => ?_) ?_
           rotate_left
           · refine ⟨by unfold ItemAt; simp [go_sem], by simp [go_sem], by repeat (first | exact Below.refl _ _ | (refine below_via ?_ _) | (refine below_alloc ?_ _) | (refine below_setCell ?_ (by simp) _ _))⟩
           · obtain ⟨⟨q0, q1, q2, q3, q4, q5⟩, hz, hB⟩ := hC
             refine wp_region_via (by kernel_rfl) (by kernel_rfl) ?_
             repeat (go_big_quiet_step ((first | (go_at_call 25; exact viaB (c_Tick _ _ x0 x1)) | (go_at_call 28; exact viaB (c_Alive _ _ _ _ _ _ _ _ (by omega) (by omega))) | (go_at_call 27; exact viaB (c_lives07 _)))))
             refine wpQuiet_nil ?_
             rintro _ ⟨e, rfl⟩
             go_wp2
             go_ret
             exact ⟨rfl, below_via hB _⟩)
  · skip
    all_goals rcases hcase with a1 | ⟨a1, a2⟩ | ⟨a1, a2, a3⟩
    all_goals rcases hcase2 with b1 | ⟨b1, b2, b3⟩
    all_goals
      go_enter Try.func6, Try.ntmps6
      go_wp2_with (first | (go_at_call 21; refine (viaC (c_Gen _ _ x0 x1)).mono ?_; rintro e w' ⟨rfl, m, rfl⟩) | (go_at_call 15; refine (viaC (c_Flush _ _ _ x0 x1 d0 d1)).mono ?_; rintro e w' ⟨rfl, m, rfl⟩) | (go_at_call 28; refine (viaC (c_Alive _ _ _ _ _ _ _ _ (by omega) (by omega))).mono ?_; rintro e w' ⟨rfl, m, rfl⟩) | (go_at_call 27; refine (viaC (c_lives07 _)).mono ?_; rintro e w' ⟨rfl, m, rfl⟩))
      first
        | (go_ret; exact ⟨rfl, by repeat (first | exact Below.refl _ _ | (refine below_via ?_ _) | (refine below_alloc ?_ _) | (refine below_setCell ?_ (by simp) _ _))⟩)
        | (refine gen_world (P := Code.wp Try.prog _ _ _) (fun W => ItemAt W w.heap.size key val flags id dies (G) ∧ w.heap.size < W.heap.size ∧ Below w.heap.size w W) (fun W hC => ?_) ?_
           rotate_left
           · refine ⟨by unfold ItemAt; simp [go_sem], by simp [go_sem], by repeat (first | exact Below.refl _ _ | (refine below_via ?_ _) | (refine below_alloc ?_ _) | (refine below_setCell ?_ (by simp) _ _))⟩
           · obtain ⟨⟨q0, q1, q2, q3, q4, q5⟩, hz, hB⟩ := hC
             refine wp_region_via (by kernel_rfl) (by kernel_rfl) ?_
             repeat (go_big_quiet_step ((first | (go_at_call 25; exact viaB (c_Tick _ _ x0 x1)) | (go_at_call 28; exact viaB (c_Alive _ _ _ _ _ _ _ _ (by omega) (by omega))) | (go_at_call 27; exact viaB (c_lives07 _)))))
             refine wpQuiet_nil ?_
             rintro _ ⟨e, rfl⟩
             go_wp2
             go_ret
             exact ⟨rfl, below_via hB _⟩)
end Go.Proofs.Ytcgjopjjmgpobaa
