/- Layer 22: RefsWord, RefsLess, RefsQuiet. -/
import Derived.Test.YtijifjiehldcaaaRfLives
namespace Go.Proofs.Ytijifjiehldcaaa
open Go.RowKit
set_option linter.unusedVariables false

theorem c_rMarked (v : Int) (w : World) (v0 : 0 ≤ v) (v1 : v < 18446744073709551616) : Calls Try.prog 9 #[.int .u64 v] w fun e w' => e = .returned (.bool (rfMarked v)) ∧ w = w' := by
  go_enter Try.func9, Try.ntmps9
  go_wp2
  go_ret
  exact ⟨ret_bool (by unfold rfMarked; rw [Bool.eq_iff_iff]; simp), rfl⟩
theorem c_rLess (v : Int) (w : World) (v0 : 0 ≤ v) (v1 : v < 18446744073709551616) : Calls Try.prog 11 #[.int .u64 v] w fun e w' => e = .returned (.int .u64 (rfLess v)) ∧ w = w' := by
  by_cases h : v % 2 = 1
  · have h1 : (v % 2 == 1) = true := by simp [h]
    have HE := Lib.hid (show IntKind.u64.wrap (v + 1) = rfLess v by unfold rfLess; rw [IntKind.wrap_u64, h])
    clear h
    go_enter Try.func11, Try.ntmps11
    go_wp2
    go_ret
    exact ⟨ret_int (by first | exact HE.out | (rw [← HE.out, IntKind.wrap_u64])), rfl⟩
  · have h1 : (v % 2 == 1) = false := by simpa using h
    have HE := Lib.hid (show rfLess v = v by unfold rfLess; omega)
    clear h
    rw [HE.out]
    go_enter Try.func11, Try.ntmps11
    go_wp2
    go_ret
    exact ⟨rfl, rfl⟩
theorem w_RefsWord (v : Int) (w : World) (v0 : 0 ≤ v) (v1 : v ≤ 18446744073709551615) : Calls Try.prog 3 #[.int .u64 v] w fun e w' => e = .returned (.bool true) ∧ Below w.heap.size w w' := by
  have v2 : v < 18446744073709551616 := by omega
  go_enter Try.func3, Try.ntmps3
  go_wp2_with fail
  refine (c_Marked v _ v0 v2).mono ?_
  rintro e w' ⟨rfl, rfl⟩
  go_wp2_with fail
  refine (c_rMarked v _ v0 v2).mono ?_
  rintro e w' ⟨rfl, rfl⟩
  go_wp2_with fail
  refine (c_Less v _ v0 v2).mono ?_
  rintro e w' ⟨rfl, rfl⟩
  go_wp2_with fail
  refine (c_rLess v _ v0 v2).mono ?_
  rintro e w' ⟨rfl, rfl⟩
  go_wp2_with fail
  refine (c_lives22 _).mono ?_
  rintro e w' ⟨rfl, hb⟩
  go_wp2
  go_ret
  exact ⟨rfl, hb⟩
theorem w_RefsLess (v : Int) (w : World) (v0 : 0 ≤ v) (v1 : v ≤ 18446744073709551615) : Calls Try.prog 5 #[.int .u64 v] w fun e w' => e = .returned (.bool true) ∧ Below w.heap.size w w' := by
  have v2 : v < 18446744073709551616 := by omega
  by_cases hm : v % 2 = 1
  · have HM := Lib.hid (show rfMarked v = true by unfold rfMarked; simpa using hm)
    by_cases hg : v = 18446744073709551615
    · have e1 : (v == 18446744073709551615) = true := by simp [hg]
      have HL := Lib.hid (show rfLess v = 0 by unfold rfLess; omega)
      clear hg hm
      go_enter Try.func5, Try.ntmps5
      go_wp2_with fail
      refine (c_Less v _ v0 v2).mono ?_
      rintro e w' ⟨rfl, rfl⟩
      rw [HL.out]
      go_wp2_with fail
      refine (c_Marked v _ v0 v2).mono ?_
      rintro e w' ⟨rfl, rfl⟩
      rw [HM.out]
      go_wp2_with fail
      refine (c_lives22 _).mono ?_
      rintro e w' ⟨rfl, hb⟩
      go_wp2
      go_ret
      exact ⟨rfl, hb⟩
    · have e1 : (v == 18446744073709551615) = false := by simpa using hg
      have HL := Lib.hid (show rfLess v = v + 1 by unfold rfLess; omega)
      obtain ⟨x, hx⟩ : ∃ x, x = v + 1 := ⟨_, rfl⟩
      rw [← hx] at HL
      have x0 : 0 ≤ x := by omega
      have x1 : x < 18446744073709551615 := by omega
      have x2 : v < x := by omega
      have hq : (x / 2 == v / 2 + 1) = true := by simp; omega
      have HX := Lib.hid (show rfMarked x = false by unfold rfMarked; simp; omega)
      have HY := Lib.hid (show rfMarked (x + 1) = true by unfold rfMarked; simp; omega)
      clear hg hm hx
      go_enter Try.func5, Try.ntmps5
      go_wp2_with fail
      refine (c_Less v _ v0 v2).mono ?_
      rintro e w' ⟨rfl, rfl⟩
      rw [HL.out]
      go_wp2_with fail
      refine (c_Marked v _ v0 v2).mono ?_
      rintro e w' ⟨rfl, rfl⟩
      rw [HM.out]
      go_wp2_with fail
      refine (c_Marked x _ x0 (by omega)).mono ?_
      rintro e w' ⟨rfl, rfl⟩
      rw [HX.out]
      go_wp2_with fail
      refine (c_Marked (x + 1) _ (by omega) (by omega)).mono ?_
      rintro e w' ⟨rfl, rfl⟩
      rw [HY.out]
      go_wp2_with fail
      refine (c_lives22 _).mono ?_
      rintro e w' ⟨rfl, hb⟩
      go_wp2
      go_ret
      exact ⟨rfl, hb⟩
  · have HM := Lib.hid (show rfMarked v = false by unfold rfMarked; simpa using hm)
    have HL := Lib.hid (show rfLess v = v by unfold rfLess; omega)
    clear hm
    go_enter Try.func5, Try.ntmps5
    go_wp2_with fail
    refine (c_Less v _ v0 v2).mono ?_
    rintro e w' ⟨rfl, rfl⟩
    rw [HL.out]
    go_wp2_with fail
    refine (c_Marked v _ v0 v2).mono ?_
    rintro e w' ⟨rfl, rfl⟩
    rw [HM.out]
    go_wp2_with fail
    refine (c_lives22 _).mono ?_
    rintro e w' ⟨rfl, hb⟩
    go_wp2
    go_ret
    exact ⟨rfl, hb⟩
/-- A Touch that runs by itself. -/
theorem tcRun_marked (k : Nat) (M : Int → Int) (n : Int) (la : La) (A : Int) (hA : ¬ A = 0) (h : rfMarked (M A) = true) : tcRun (k + 1) ⟨M, n, la, tcNew A⟩ = (1, ⟨M, n + 1, ⟨1, A, M A, M A⟩, ⟨0, 1, M A, false⟩⟩) := by
  have e : tcStep ⟨M, n, la, tcNew A⟩ = ⟨M, n + 1, ⟨1, A, M A, M A⟩, ⟨0, 1, M A, false⟩⟩ := by unfold tcStep tcNew; dsimp only; rw [if_neg hA, if_pos rfl, h]; rfl
  unfold tcRun
  rw [if_neg (by exact hA), e, tcRun_over _ _ rfl]
theorem tcRun_swept (k : Nat) (M : Int → Int) (n : Int) (la : La) (A : Int) (hA : ¬ A = 0) (h : rfMarked (M A) = false) (h5 : ¬ M 5 = 0) : tcRun (k + 1 + 1) ⟨M, n, la, tcNew A⟩ = (2, ⟨M, n + 1 + 1, ⟨1, 5, M 5, M 5⟩, ⟨0, 2, M A, false⟩⟩) := by
  have e : tcStep ⟨M, n, la, tcNew A⟩ = ⟨M, n + 1, ⟨1, A, M A, M A⟩, ⟨A, 1, M A, false⟩⟩ := by unfold tcStep tcNew; dsimp only; rw [if_neg hA, if_pos rfl, h]; rfl
  have e2 : tcStep ⟨M, n + 1, ⟨1, A, M A, M A⟩, ⟨A, 1, M A, false⟩⟩ = ⟨M, n + 1 + 1, ⟨1, 5, M 5, M 5⟩, ⟨0, 2, M A, false⟩⟩ := by unfold tcStep; dsimp only; rw [if_neg hA, if_neg (by decide), if_pos rfl, if_pos h5]
  unfold tcRun
  rw [if_neg (by exact hA), e]
  unfold tcRun
  rw [if_neg (by exact hA), e2, tcRun_over _ _ rfl]
theorem tcRun_done (k : Nat) (M : Int → Int) (n : Int) (la : La) (A : Int) (hA : ¬ A = 0) (h : rfMarked (M A) = false) (h5 : M 5 = 0) : tcRun (k + 1 + 1 + 1) ⟨M, n, la, tcNew A⟩ = (3, ⟨upd M A (rfMark (M A)), n + 1 + 1 + 1, ⟨3, A, M A, rfMark (M A)⟩, ⟨0, 3, M A, true⟩⟩) := by
  have e : tcStep ⟨M, n, la, tcNew A⟩ = ⟨M, n + 1, ⟨1, A, M A, M A⟩, ⟨A, 1, M A, false⟩⟩ := by unfold tcStep tcNew; dsimp only; rw [if_neg hA, if_pos rfl, h]; rfl
  have e2 : tcStep ⟨M, n + 1, ⟨1, A, M A, M A⟩, ⟨A, 1, M A, false⟩⟩ = ⟨M, n + 1 + 1, ⟨1, 5, M 5, M 5⟩, ⟨A, 2, M A, false⟩⟩ := by unfold tcStep; dsimp only; rw [if_neg hA, if_neg (by decide), if_pos rfl, if_neg (fun h => h h5)]
  have e3 : tcStep ⟨M, n + 1 + 1, ⟨1, 5, M 5, M 5⟩, ⟨A, 2, M A, false⟩⟩ = ⟨upd M A (rfMark (M A)), n + 1 + 1 + 1, ⟨3, A, M A, rfMark (M A)⟩, ⟨0, 3, M A, true⟩⟩ := by unfold tcStep; dsimp only; rw [if_neg hA, if_neg (by decide), if_neg (by decide), if_pos rfl]
  unfold tcRun
  rw [if_neg (by exact hA), e]
  unfold tcRun
  rw [if_neg (by exact hA), e2]
  unfold tcRun
  rw [if_neg (by exact hA), e3, tcRun_over _ _ rfl]
end Go.Proofs.Ytijifjiehldcaaa
