/- Layer 7: contracts of Now and Dies. Contracts of layer 7's functions: whether an item is alive. -/
import Derived.Test.YtifkfhnbkjkakaaGreatDoorZrBaC
import Derived.Deep.DeepCutAuto
import Derived.Deep.RegionHeld3
namespace Go.Proofs.YtifkfhnbkjkakaaGreatDoor
set_option linter.unusedSimpArgs false
set_option linter.unusedVariables false
set_option maxHeartbeats 2000000
section
open Go.RowKit
theorem c_Dies (x t : Int) (w : World) (x0 : 0 ≤ x) (x1 : x ≤ 18446744073709551615) (t0 : -9223372036854775808 ≤ t) (t1 : t ≤ 9223372036854775807) :
 Calls Tryz.prog 37 #[.int .u64 x, .int .i64 t] w fun e w' => e = .returned (.int .i64 (epDies x t)) ∧ Below w.heap.size w w' := by
 have hn := epNow_bd x
 have hc : (t == 0) = true ∧ epDies x t = -1 ∨ (t == 0) = false ∧ t < 0 ∧ epDies x t = epNow x ∨ (t == 0) = false ∧ ¬ t < 0 ∧ t ≤ 2592000 ∧ epDies x t = epNow x + t ∨ (t == 0) = false ∧ ¬ t < 0 ∧ ¬ t ≤ 2592000 ∧ epDies x t = t := by
  unfold epDies
  by_cases h : t = 0
  · left; exact ⟨by simp [h], by rw [if_pos h]⟩
  · have hb : (t == 0) = false := beq_eq_false_iff_ne.2 h
    rw [if_neg h]
    by_cases h2 : t < 0
    · right; left; exact ⟨hb, h2, by rw [if_pos h2]⟩
    · rw [if_neg h2]
      by_cases h3 : t ≤ 2592000
      · right; right; left; exact ⟨hb, h2, h3, by rw [if_pos h3]⟩
      · right; right; right; exact ⟨hb, h2, h3, by rw [if_neg h3]⟩
 rcases hc with ⟨h1, h⟩ | ⟨h1, h2, h⟩ | ⟨h1, h2, h3, h⟩ | ⟨h1, h2, h3, h⟩
 all_goals
  rw [h]
  clear h
  go_enter Tryz.func37, Tryz.ntmps37
  go_wp2_with (go_at_call 44; refine (viaC (c_said _ _ x0 x1)).mono ?_; rintro e w' ⟨rfl, m, rfl⟩)
  go_ret
  exact ⟨rfl, below_via (Below.refl _ _) _⟩
end
section
open Go.RowKit
theorem c_expired (a b c f h i j : Value) (n d : Int) (w : World) :
 Calls Tryz.prog 45 #[.agg #[.int .i64 n, a, b, c, f, h, i, .int .i64 d, j]] w fun e w' => e = .returned (.bool (epExp d n)) ∧ Below w.heap.size w w' := by
 by_cases e : d = -1
 · subst e
   rw [show epExp (-1) n = false by unfold epExp; rw [decide_eq_false_iff_not]; omega]
   go_enter Tryz.func45, Tryz.ntmps45
   go_wp2
   go_ret
   exact ⟨rfl, (Below.refl _ _).alloc (Nat.le_refl _) _⟩
 · have e1 : (d != -1) = true := by rw [bne_iff_ne]; exact e
   have e2 : epExp d n = decide (d ≤ n) := by unfold epExp; rw [decide_eq_decide]; simp [e]
   rw [e2]
   clear e e2
   go_enter Tryz.func45, Tryz.ntmps45
   go_wp2
   go_ret
   exact ⟨rfl, (Below.refl _ _).alloc (Nat.le_refl _) _⟩
theorem c_flushed (n a c f h i j : Value) (b g : Int) (w : World) :
 Calls Tryz.prog 46 #[.agg #[n, a, .int .i64 b, c, f, h, i, j, .int .i64 g]] w fun e w' => e = .returned (.bool (epFl g b)) ∧ Below w.heap.size w w' := by
 go_enter Tryz.func46, Tryz.ntmps46
 go_wp2
 go_ret
 exact ⟨ret_bool (by unfold epFl; rw [Bool.eq_iff_iff]; simp), (Below.refl _ _).alloc (Nat.le_refl _) _⟩
def AskedAt (wx : World) (g : Nat) (n a gn : Int) (key val : ByteArray) (flags id dies gen : Int) : Prop :=
 wx.cell? ⟨g, 0, none⟩ = some (.int .i64 n) ∧ wx.cell? ⟨g, 1, none⟩ = some (.int .i64 a) ∧ wx.cell? ⟨g, 2, none⟩ = some (.int .i64 gn) ∧ wx.cell? ⟨g, 3, none⟩ = some (.string key) ∧ wx.cell? ⟨g, 4, none⟩ = some (.string val) ∧ wx.cell? ⟨g, 5, none⟩ = some (.int .u32 flags) ∧ wx.cell? ⟨g, 6, none⟩ = some (.int .u64 id) ∧ wx.cell? ⟨g, 7, none⟩ = some (.int .i64 dies) ∧ wx.cell? ⟨g, 8, none⟩ = some (.int .i64 gen)
theorem c_Alive (key val : ByteArray) (flags id dies gen x : Int) (w : World) (x0 : 0 ≤ x) (x1 : x ≤ 18446744073709551615) :
 Calls Tryz.prog 15 #[.agg #[.string key, .string val, .int .u32 flags, .int .u64 id, .int .i64 dies, .int .i64 gen], .int .u64 x] w fun e w' => e = .returned (.bool (epAlive dies gen x)) ∧ Below w.heap.size w w' := by
 rw [epAlive_eq]
 go_enter Tryz.func15, Tryz.ntmps15
 go_upto_region 1 with fail
 go_cut [5] (fun s5 wx => ∃ g : Nat, s5 = .pointer (some ⟨g, 0, none⟩) ∧ g < wx.heap.size ∧ Below w.heap.size w wx ∧ AskedAt wx g (epNow x) (epAt x) (epGen x) key val flags id dies gen)
 case first =>
  go_region_held3 (fun w' => w'.cell? ⟨w.heap.size, 0, none⟩ = some (.string key) ∧ w'.cell? ⟨w.heap.size, 1, none⟩ = some (.string val) ∧ w'.cell? ⟨w.heap.size, 2, none⟩ = some (.int .u32 flags) ∧ w'.cell? ⟨w.heap.size, 3, none⟩ = some (.int .u64 id) ∧ w'.cell? ⟨w.heap.size, 4, none⟩ = some (.int .i64 dies) ∧ w'.cell? ⟨w.heap.size, 5, none⟩ = some (.int .i64 gen)) (first | go_keep | (refine ⟨?_, ?_, ?_, ?_, ?_, ?_⟩ <;> simp [go_sem]))
   (first | (go_at_call 44; refine (viaC (c_said _ _ x0 x1)).mono ?_; rintro e w' ⟨rfl, m, rfl⟩))
  all_goals
   go_wp2_with fail
   go_meet
  · refine ⟨_, rfl, ?_, ?_, ?_⟩
    · simp
    · refine Below.alloc ?_ ?_ _
      · refine below_via ?_ _
        exact ((Below.refl _ _).alloc (Nat.le_refl _) _).drew
      · simp
    · unfold AskedAt
      simp [go_sem]
  · refine ⟨_, rfl, ?_, ?_, ?_⟩
    · simp
    · repeat (refine Below.setCell ?_ (by simp) _)
      refine below_via ?_ _
      exact (((Below.refl _ _).alloc (Nat.le_refl _) _).alloc (by simp) _).drew
    · unfold AskedAt
      simp [go_sem]
      go_show
 case rest =>
  obtain ⟨g, rfl, hg, hB, h0, h1, h2, h3, h4, h5, h6, h7, h8⟩ := hcut
  cases hE : epExp dies (epNow x) with
  | true =>
    have hB' := hB
    clear hB
    go_wp2_with (first | (go_at_call 45; refine (viaC (c_expired _ _ _ _ _ _ _ _ _ _)).mono ?_; rintro e w' ⟨rfl, m, rfl⟩) | (go_at_call 46; refine (viaC (c_flushed _ _ _ _ _ _ _ _ _ _)).mono ?_; rintro e w' ⟨rfl, m2, rfl⟩))
    go_ret
    exact ⟨by simp [hE], below_via hB' _⟩
  | false =>
    have hB' := hB
    clear hB
    go_wp2_with (first | (go_at_call 45; refine (viaC (c_expired _ _ _ _ _ _ _ _ _ _)).mono ?_; rintro e w' ⟨rfl, m, rfl⟩) | (go_at_call 46; refine (viaC (c_flushed _ _ _ _ _ _ _ _ _ _)).mono ?_; rintro e w' ⟨rfl, m2, rfl⟩))
    go_ret
    exact ⟨by simp [hE], below_via (below_via hB' _) _⟩
end
end Go.Proofs.YtifkfhnbkjkakaaGreatDoor
