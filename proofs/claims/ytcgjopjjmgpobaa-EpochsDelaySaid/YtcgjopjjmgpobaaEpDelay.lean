/- The law EpochsDelay. -/
import Derived.Test.YtcgjopjjmgpobaaEpStored
namespace Go.Proofs.Ytcgjopjjmgpobaa
open Go.RowKit
set_option linter.unusedVariables false

theorem tick_put {m a g : Int} (m0 : 0 ≤ m) (m1 : m < 16777215) (a0 : 0 ≤ a) (a1 : a ≤ 16777215) (g0 : 0 ≤ g) (g1 : g ≤ 65534) :
    epTick (epPut m a g) = if 0 < a ∧ a ≤ m + 1 then epPut (m + 1) 0 (g + 1) else epPut (m + 1) a g := by
  have e1 : epNow (epPut m a g) = m := by rw [epNow_put]; omega
  have e2 : epAt (epPut m a g) = a := by rw [epAt_put]; omega
  have e3 : epGen (epPut m a g) = g := by rw [epGen_put]; omega
  unfold epTick epDue epTickNow
  rw [e1, e2, e3, if_pos m1]
  by_cases c : 0 < a ∧ a ≤ m + 1
  · rw [if_pos (by rw [decide_eq_true_eq]; exact c), if_pos c, if_pos (by omega)]
  · rw [if_neg (by rw [decide_eq_true_eq]; exact c), if_neg c]
theorem later_put (k : Nat) {n a g : Int} (n0 : 0 ≤ n) (n1 : n + k < 16777215) (ha : a = 0 ∨ (n < a ∧ a ≤ 16777215)) (g0 : 0 ≤ g) (g1 : g ≤ 65533) :
    epLater k (epPut n a g) = if a ≠ 0 ∧ a ≤ n + k then epPut (n + k) 0 (g + 1) else epPut (n + k) a g := by
  induction k with
  | zero => rw [if_neg (by omega)]; show epPut n a g = _; rw [show n + (0 : Nat) = n by omega]
  | succ k ih =>
    rw [epLater_snoc, ih (by omega)]
    by_cases c : a ≠ 0 ∧ a ≤ n + k
    · rw [if_pos c, tick_put (by omega) (by omega) (by omega) (by omega) (by omega) (by omega), if_neg (by omega), if_pos (by omega)]
      rw [show n + (k : Int) + 1 = n + ((k + 1 : Nat) : Int) by omega]
    · rw [if_neg c, tick_put (by omega) (by omega) (by omega) (by omega) (by omega) (by omega)]
      by_cases c2 : 0 < a ∧ a ≤ n + k + 1
      · rw [if_pos c2, if_pos (by omega), show n + (k : Int) + 1 = n + ((k + 1 : Nat) : Int) by omega]
      · rw [if_neg c2, if_neg (by omega), show n + (k : Int) + 1 = n + ((k + 1 : Nat) : Int) by omega]
theorem alive_put (G n a g : Int) : epAlive (-1) G (epPut n a g) = decide (G = g % 65536) := by
  unfold epAlive; rw [epGen_put, decide_eq_decide]; simp
theorem dies_zero (x : Int) : epDies x 0 = -1 := by unfold epDies; simp
theorem flush_put {n a g d : Int} (n0 : 0 ≤ n) (n1 : n < 1048576) (g0 : 0 ≤ g) (g1 : g < 65535) (d0 : 1 ≤ d) (d1 : d ≤ 1000) :
    epFlush (epPut n a g) d = epPut n (n + d) g ∧ epFlushOk (epPut n a g) = true := by
  have e1 : epNow (epPut n a g) = n := by rw [epNow_put]; omega
  have e3 : epGen (epPut n a g) = g := by rw [epGen_put]; omega
  unfold epFlush epFlushOk
  rw [e1, e3, if_neg (by omega), if_neg (by omega), if_pos (by omega)]
  exact ⟨rfl, by rw [decide_eq_true_eq]; omega⟩
theorem flush_put0 {n a g : Int} (n0 : 0 ≤ n) (n1 : n < 1048576) (g0 : 0 ≤ g) (g1 : g < 65535) : epFlush (epPut n a g) 0 = epPut n 0 (g + 1) := by
  have e1 : epNow (epPut n a g) = n := by rw [epNow_put]; omega
  have e3 : epGen (epPut n a g) = g := by rw [epGen_put]; omega
  unfold epFlush
  rw [e1, e3, if_neg (by omega), if_pos (by omega)]

set_option maxRecDepth 100000 in
set_option maxHeartbeats 4000000 in
theorem w_EpochsDelay (now z0 z1 z2 other : Int) (w : World) (n0 : 0 ≤ now) (n1 : now ≤ 4294967295) (a0 : 0 ≤ z0) (a1 : z0 ≤ 65535) (b0 : 0 ≤ z1) (b1 : z1 ≤ 65535) (c0 : 0 ≤ z2) (c1 : z2 ≤ 65535) (o0 : 0 ≤ other) (o1 : other ≤ 255) :
    Calls Try.prog 8 #[.int .u32 now, .agg #[.int .u16 z0, .int .u16 z1, .int .u16 z2], .int .u8 other] w fun e w' => e = .returned (.bool true) ∧ Below w.heap.size w w' := by
  have vv := via_via
  obtain ⟨n, hn, n0', n1'⟩ : ∃ n : Int, now % 1048576 = n ∧ 0 ≤ n ∧ n < 1048576 := ⟨_, rfl, by omega, by omega⟩
  obtain ⟨d, hd, d0, d1⟩ : ∃ d : Int, 1 + z0 % 200 = d ∧ 1 ≤ d ∧ d ≤ 200 := ⟨_, rfl, by omega, by omega⟩
  obtain ⟨p, hp, p0, p1⟩ : ∃ p : Int, z1 % 300 = p ∧ 0 ≤ p ∧ p < 300 := ⟨_, rfl, by omega, by omega⟩
  obtain ⟨q, hq, q0, q1⟩ : ∃ q : Int, z2 % 200 = q ∧ 0 ≤ q ∧ q < 200 := ⟨_, rfl, by omega, by omega⟩
  have Q1 := epGen_put
  have Q2 := epNow_put
  have Q3 := epAt_put
  have Q4 := alive_put
  have Q5 := dies_zero
  have M1 : (n + p) % 16777216 = n + p := by omega
  have M2 : (n + d) % 16777216 = n + d := by omega
  have fp1 := fun n a g => (epPut_bd n a g).1
  have fp2 := fun n a g => (epPut_bd n a g).2
  have FP := Lib.hid (And.intro fp1 fp2)
  clear fp1 fp2
  obtain ⟨f1, f2⟩ := flush_put (n := n) (a := 0) (g := 3) (d := d) n0' n1' (by omega) (by omega) d0 (by omega)
  have h3 : other % 3 = 0 ∨ other % 3 = 1 ∨ other % 3 = 2 := by omega
  rcases h3 with h3 | h3 | h3
  · have k1 : (other % 3 == 1) = false := by rw [h3]; rfl
    have k2 : (other % 3 == 2) = false := by rw [h3]; rfl
    clear h3
    have lp := later_put p.toNat (n := n) (a := n + d) (g := 3) n0' (by omega) (by omega) (by omega) (by omega)
    rw [Int.toNat_of_nonneg p0] at lp
    by_cases c : n + d ≤ n + p
    · rw [if_pos (by omega)] at lp
      have lf : epLater 300 (epPut (n + p) 0 4) = epPut (n + p + 300) 0 4 := (later_put 300 (n := n + p) (a := 0) (g := 4) (by omega) (by omega) (by omega) (by omega) (by omega)).trans (if_neg (by omega))
      simp only [Int.reduceAdd] at lp
      go_enter Try.func8, Try.ntmps8
      go_wp2_with (first | (go_at_call 23; refine (viaC (c_Put _ _ _ _ (by omega) (by omega) (by omega) (by omega) (by omega) (by omega))).mono ?_; rintro e w' ⟨rfl, m, rfl⟩) | (go_at_call 15; refine (viaC (c_Flush _ _ _ (FP.out.1 _ _ _) (FP.out.2 _ _ _) (by omega) (by omega))).mono ?_; rintro e w' ⟨rfl, m, rfl⟩) | (go_at_call 32; refine (viaC (c_stored _ _ _ (FP.out.1 _ _ _) (FP.out.2 _ _ _) (by omega) (by omega))).mono ?_; rintro e w' ⟨rfl, ms, rfl⟩; try (have hz := lt_via _ ms w.heap.size (by simp; done); rw [via_via] at hz; have hz2 := Nat.le_of_lt hz)) | (go_at_call 28; refine (viaC (c_Alive _ _ _ _ _ _ _ _ (FP.out.1 _ _ _) (FP.out.2 _ _ _))).mono ?_; rintro e w' ⟨rfl, m, rfl⟩) | (go_at_call 19; refine (viaC (c_At _ _ (FP.out.1 _ _ _) (FP.out.2 _ _ _))).mono ?_; rintro e w' ⟨rfl, m, rfl⟩) | (go_at_call 17; refine (viaC (c_Now _ _ (FP.out.1 _ _ _) (FP.out.2 _ _ _))).mono ?_; rintro e w' ⟨rfl, m, rfl⟩) | (go_at_call 33; refine (viaC (c_later' _ _ _ (FP.out.1 _ _ _) (FP.out.2 _ _ _) (by omega) (by omega))).mono ?_; rintro e w' ⟨rfl, m, rfl⟩) | (go_at_call 27; refine (viaC (c_lives07 _)).mono ?_; rintro e w' ⟨rfl, m, rfl⟩))
      all_goals go_ret
      all_goals refine ⟨?_, by repeat (first | (with_reducible exact Below.refl _ _) | (with_reducible refine below_via ?_ _) | (with_reducible refine below_alloc ?_ _) | (with_reducible refine below_setCell ?_ (by simp) _ _))⟩
      all_goals first | rfl | (refine ret_bool ?_; simp; omega) | (rename_i hh; exfalso; simp at hh; omega)
    · rw [if_neg (by omega)] at lp
      by_cases c2 : n + d ≤ n + p + 300
      · have lf : epLater 300 (epPut (n + p) (n + d) 3) = epPut (n + p + 300) 0 4 := (later_put 300 (n := n + p) (a := n + d) (g := 3) (by omega) (by omega) (by omega) (by omega) (by omega)).trans (if_pos (by omega))
        go_enter Try.func8, Try.ntmps8
        go_wp2_with (first | (go_at_call 23; refine (viaC (c_Put _ _ _ _ (by omega) (by omega) (by omega) (by omega) (by omega) (by omega))).mono ?_; rintro e w' ⟨rfl, m, rfl⟩) | (go_at_call 15; refine (viaC (c_Flush _ _ _ (FP.out.1 _ _ _) (FP.out.2 _ _ _) (by omega) (by omega))).mono ?_; rintro e w' ⟨rfl, m, rfl⟩) | (go_at_call 32; refine (viaC (c_stored _ _ _ (FP.out.1 _ _ _) (FP.out.2 _ _ _) (by omega) (by omega))).mono ?_; rintro e w' ⟨rfl, ms, rfl⟩; try (have hz := lt_via _ ms w.heap.size (by simp; done); rw [via_via] at hz; have hz2 := Nat.le_of_lt hz)) | (go_at_call 28; refine (viaC (c_Alive _ _ _ _ _ _ _ _ (FP.out.1 _ _ _) (FP.out.2 _ _ _))).mono ?_; rintro e w' ⟨rfl, m, rfl⟩) | (go_at_call 19; refine (viaC (c_At _ _ (FP.out.1 _ _ _) (FP.out.2 _ _ _))).mono ?_; rintro e w' ⟨rfl, m, rfl⟩) | (go_at_call 17; refine (viaC (c_Now _ _ (FP.out.1 _ _ _) (FP.out.2 _ _ _))).mono ?_; rintro e w' ⟨rfl, m, rfl⟩) | (go_at_call 33; refine (viaC (c_later' _ _ _ (FP.out.1 _ _ _) (FP.out.2 _ _ _) (by omega) (by omega))).mono ?_; rintro e w' ⟨rfl, m, rfl⟩) | (go_at_call 27; refine (viaC (c_lives07 _)).mono ?_; rintro e w' ⟨rfl, m, rfl⟩))
        all_goals go_ret
        all_goals refine ⟨?_, by repeat (first | (with_reducible exact Below.refl _ _) | (with_reducible refine below_via ?_ _) | (with_reducible refine below_alloc ?_ _) | (with_reducible refine below_setCell ?_ (by simp) _ _))⟩
        all_goals first | rfl | (refine ret_bool ?_; simp; omega) | (rename_i hh; exfalso; simp at hh; omega)
      · exfalso; omega
  · have k1 : (other % 3 == 1) = true := by rw [h3]; rfl
    have k2 : (other % 3 == 2) = false := by rw [h3]; rfl
    clear h3
    obtain ⟨g1, g2⟩ := flush_put (n := n) (a := n + d) (g := 3) (d := 1 + q) n0' n1' (by omega) (by omega) (by omega) (by omega)
    have lp := later_put p.toNat (n := n) (a := n + (1 + q)) (g := 3) n0' (by omega) (by omega) (by omega) (by omega)
    rw [Int.toNat_of_nonneg p0] at lp
    by_cases c : n + (1 + q) ≤ n + p
    · rw [if_pos (by omega)] at lp
      have lf : epLater 300 (epPut (n + p) 0 4) = epPut (n + p + 300) 0 4 := (later_put 300 (n := n + p) (a := 0) (g := 4) (by omega) (by omega) (by omega) (by omega) (by omega)).trans (if_neg (by omega))
      simp only [Int.reduceAdd] at lp
      go_enter Try.func8, Try.ntmps8
      go_wp2_with (first | (go_at_call 23; refine (viaC (c_Put _ _ _ _ (by omega) (by omega) (by omega) (by omega) (by omega) (by omega))).mono ?_; rintro e w' ⟨rfl, m, rfl⟩) | (go_at_call 15; refine (viaC (c_Flush _ _ _ (FP.out.1 _ _ _) (FP.out.2 _ _ _) (by omega) (by omega))).mono ?_; rintro e w' ⟨rfl, m, rfl⟩) | (go_at_call 32; refine (viaC (c_stored _ _ _ (FP.out.1 _ _ _) (FP.out.2 _ _ _) (by omega) (by omega))).mono ?_; rintro e w' ⟨rfl, ms, rfl⟩; try (have hz := lt_via _ ms w.heap.size (by simp; done); rw [via_via] at hz; have hz2 := Nat.le_of_lt hz)) | (go_at_call 28; refine (viaC (c_Alive _ _ _ _ _ _ _ _ (FP.out.1 _ _ _) (FP.out.2 _ _ _))).mono ?_; rintro e w' ⟨rfl, m, rfl⟩) | (go_at_call 19; refine (viaC (c_At _ _ (FP.out.1 _ _ _) (FP.out.2 _ _ _))).mono ?_; rintro e w' ⟨rfl, m, rfl⟩) | (go_at_call 17; refine (viaC (c_Now _ _ (FP.out.1 _ _ _) (FP.out.2 _ _ _))).mono ?_; rintro e w' ⟨rfl, m, rfl⟩) | (go_at_call 33; refine (viaC (c_later' _ _ _ (FP.out.1 _ _ _) (FP.out.2 _ _ _) (by omega) (by omega))).mono ?_; rintro e w' ⟨rfl, m, rfl⟩) | (go_at_call 27; refine (viaC (c_lives07 _)).mono ?_; rintro e w' ⟨rfl, m, rfl⟩))
      all_goals go_ret
      all_goals refine ⟨?_, by repeat (first | (with_reducible exact Below.refl _ _) | (with_reducible refine below_via ?_ _) | (with_reducible refine below_alloc ?_ _) | (with_reducible refine below_setCell ?_ (by simp) _ _))⟩
      all_goals first | rfl | (refine ret_bool ?_; simp; omega) | (rename_i hh; exfalso; simp at hh; omega)
    · rw [if_neg (by omega)] at lp
      by_cases c2 : n + (1 + q) ≤ n + p + 300
      · have lf : epLater 300 (epPut (n + p) (n + (1 + q)) 3) = epPut (n + p + 300) 0 4 := (later_put 300 (n := n + p) (a := n + (1 + q)) (g := 3) (by omega) (by omega) (by omega) (by omega) (by omega)).trans (if_pos (by omega))
        go_enter Try.func8, Try.ntmps8
        go_wp2_with (first | (go_at_call 23; refine (viaC (c_Put _ _ _ _ (by omega) (by omega) (by omega) (by omega) (by omega) (by omega))).mono ?_; rintro e w' ⟨rfl, m, rfl⟩) | (go_at_call 15; refine (viaC (c_Flush _ _ _ (FP.out.1 _ _ _) (FP.out.2 _ _ _) (by omega) (by omega))).mono ?_; rintro e w' ⟨rfl, m, rfl⟩) | (go_at_call 32; refine (viaC (c_stored _ _ _ (FP.out.1 _ _ _) (FP.out.2 _ _ _) (by omega) (by omega))).mono ?_; rintro e w' ⟨rfl, ms, rfl⟩; try (have hz := lt_via _ ms w.heap.size (by simp; done); rw [via_via] at hz; have hz2 := Nat.le_of_lt hz)) | (go_at_call 28; refine (viaC (c_Alive _ _ _ _ _ _ _ _ (FP.out.1 _ _ _) (FP.out.2 _ _ _))).mono ?_; rintro e w' ⟨rfl, m, rfl⟩) | (go_at_call 19; refine (viaC (c_At _ _ (FP.out.1 _ _ _) (FP.out.2 _ _ _))).mono ?_; rintro e w' ⟨rfl, m, rfl⟩) | (go_at_call 17; refine (viaC (c_Now _ _ (FP.out.1 _ _ _) (FP.out.2 _ _ _))).mono ?_; rintro e w' ⟨rfl, m, rfl⟩) | (go_at_call 33; refine (viaC (c_later' _ _ _ (FP.out.1 _ _ _) (FP.out.2 _ _ _) (by omega) (by omega))).mono ?_; rintro e w' ⟨rfl, m, rfl⟩) | (go_at_call 27; refine (viaC (c_lives07 _)).mono ?_; rintro e w' ⟨rfl, m, rfl⟩))
        all_goals go_ret
        all_goals refine ⟨?_, by repeat (first | (with_reducible exact Below.refl _ _) | (with_reducible refine below_via ?_ _) | (with_reducible refine below_alloc ?_ _) | (with_reducible refine below_setCell ?_ (by simp) _ _))⟩
        all_goals first | rfl | (refine ret_bool ?_; simp; omega) | (rename_i hh; exfalso; simp at hh; omega)
      · exfalso; omega
  · have k1 : (other % 3 == 1) = false := by rw [h3]; rfl
    have k2 : (other % 3 == 2) = true := by rw [h3]; rfl
    clear h3
    obtain ⟨g1, g2⟩ := flush_put (n := n) (a := n + d) (g := 3) (d := 1 + q) n0' n1' (by omega) (by omega) (by omega) (by omega)
    clear g1
    have g1 : epFlush (epPut n (n + d) 3) 0 = epPut n 0 4 := flush_put0 (a := n + d) (g := 3) n0' n1' (by omega) (by omega)
    have lp : epLater p.toNat (epPut n 0 4) = epPut (n + p) 0 4 := by
      have h := (later_put p.toNat (n := n) (a := 0) (g := 4) n0' (by omega) (by omega) (by omega) (by omega)).trans (if_neg (by omega))
      rwa [Int.toNat_of_nonneg p0] at h
    have lf : epLater 300 (epPut (n + p) 0 4) = epPut (n + p + 300) 0 4 := (later_put 300 (n := n + p) (a := 0) (g := 4) (by omega) (by omega) (by omega) (by omega) (by omega)).trans (if_neg (by omega))
    go_enter Try.func8, Try.ntmps8
    go_wp2_with (first | (go_at_call 23; refine (viaC (c_Put _ _ _ _ (by omega) (by omega) (by omega) (by omega) (by omega) (by omega))).mono ?_; rintro e w' ⟨rfl, m, rfl⟩) | (go_at_call 15; refine (viaC (c_Flush _ _ _ (FP.out.1 _ _ _) (FP.out.2 _ _ _) (by omega) (by omega))).mono ?_; rintro e w' ⟨rfl, m, rfl⟩) | (go_at_call 32; refine (viaC (c_stored _ _ _ (FP.out.1 _ _ _) (FP.out.2 _ _ _) (by omega) (by omega))).mono ?_; rintro e w' ⟨rfl, ms, rfl⟩; try (have hz := lt_via _ ms w.heap.size (by simp; done); rw [via_via] at hz; have hz2 := Nat.le_of_lt hz)) | (go_at_call 28; refine (viaC (c_Alive _ _ _ _ _ _ _ _ (FP.out.1 _ _ _) (FP.out.2 _ _ _))).mono ?_; rintro e w' ⟨rfl, m, rfl⟩) | (go_at_call 19; refine (viaC (c_At _ _ (FP.out.1 _ _ _) (FP.out.2 _ _ _))).mono ?_; rintro e w' ⟨rfl, m, rfl⟩) | (go_at_call 17; refine (viaC (c_Now _ _ (FP.out.1 _ _ _) (FP.out.2 _ _ _))).mono ?_; rintro e w' ⟨rfl, m, rfl⟩) | (go_at_call 33; refine (viaC (c_later' _ _ _ (FP.out.1 _ _ _) (FP.out.2 _ _ _) (by omega) (by omega))).mono ?_; rintro e w' ⟨rfl, m, rfl⟩) | (go_at_call 27; refine (viaC (c_lives07 _)).mono ?_; rintro e w' ⟨rfl, m, rfl⟩))
    all_goals go_ret
    all_goals refine ⟨?_, by repeat (first | (with_reducible exact Below.refl _ _) | (with_reducible refine below_via ?_ _) | (with_reducible refine below_alloc ?_ _) | (with_reducible refine below_setCell ?_ (by simp) _ _))⟩
    all_goals first | rfl | (refine ret_bool ?_; simp; omega) | (rename_i hh; exfalso; simp at hh; omega)
end Go.Proofs.Ytcgjopjjmgpobaa
