/- The laws PlacesMay, PlacesOnce. -/
import Derived.Test.YtlaholgclcffaaaPlLaws
namespace Go.Proofs.Ytlaholgclcffaaa
open Go.RowKit
set_option linter.unusedVariables false

theorem keep1 {W w3 : World} {o : Obj} {b j : Nat} (hb : Below (W.alloc o).heap.size (W.alloc o) w3) (hz : b < W.heap.size) : w3.cell? ⟨b, j, none⟩ = W.cell? ⟨b, j, none⟩ :=
  (hb.cell (p := ⟨b, j, none⟩) (by simp; omega)).trans (World.cell?_alloc_past _ _ _ hz)
theorem may_in {f n b : Int} (f1 : 1 ≤ f) (f2 : f ≤ 12) (b1 : 1 ≤ b) (b2 : b ≤ 11) (n2 : n ≤ 65536) : plMay f n b = decide (4 * (fnvSize b + fnvSize (b + 1)) ≤ 8 * max n (4 * fnvSize f)) := by
  unfold plMay; rw [decide_eq_decide]; omega
theorem plWord_lt (o n : Int) : plWord o n < 18446744073709551616 := by have := plWord_bd o n; omega
theorem may_top {f n : Int} : plMay f n 12 = false := by unfold plMay; rw [decide_eq_false_iff_not]; omega

theorem w_PlacesMay (f b n : Int) (w : World) (f0 : 0 ≤ f) (f1 : f ≤ 255) (b0 : 0 ≤ b) (b1 : b ≤ 255) (n0 : 0 ≤ n) (n1 : n ≤ 65535) :
    Calls Try.prog 10 #[.int .u8 f, .int .u8 b, .int .u16 n] w fun e w' => e = .returned (.bool true) ∧ Below w.heap.size w w' := by
  obtain ⟨F, hF, F1, F2⟩ : ∃ x : Int, 1 + f % 12 = x ∧ 1 ≤ x ∧ x ≤ 12 := ⟨_, rfl, by omega, by omega⟩
  obtain ⟨B, hB, B1, B2⟩ : ∃ x : Int, 1 + b % 12 = x ∧ 1 ≤ x ∧ x ≤ 12 := ⟨_, rfl, by omega, by omega⟩
  have hs := fnvSize_bd F
  have hp := plSpots_bd (plWord B (B + 1))
  have hw := plWord_bd B (B + 1)
  by_cases c : B = 12
  · subst c
    have hm := may_top (f := F) (n := n)
    have hp' := plSpots_bd (plWord 12 13)
    go_enter Try.func10, Try.ntmps10
    go_wp2_with (first | (go_at_call 34; refine (c_May _ _ _ _ (by omega) (by omega) (by omega) (by omega) (by omega) (by omega)).mono ?_; rintro e w' ⟨rfl, rfl⟩) | (go_at_call 32; refine (c_Word _ _ _).mono ?_; rintro e w' ⟨rfl, rfl⟩) | (go_at_call 30; refine (c_Spots _ _ (plWord_bd _ _).1 (plWord_lt _ _)).mono ?_; rintro e w' ⟨rfl, rfl⟩) | (go_at_call 21; refine (c_Size _ _ (by omega) (by omega)).mono ?_; rintro e w' ⟨rfl, rfl⟩) | (go_at_call 33; refine (viaC (c_lives08 _)).mono ?_; rintro e w' ⟨rfl, m1, rfl⟩))
    all_goals (go_ret; exact ⟨rfl, below_via (Below.refl _ _) _⟩)
  · have cb : (B == 12) = false := beq_eq_false_iff_ne.2 c
    have hi := may_in (f := F) (n := n) F1 F2 B1 (by omega) (by omega)
    have hsp := spots_word B1 (show B ≤ 11 by omega)
    rw [← hsp] at hi
    have hx : n < 4 * fnvSize F ∧ max n (4 * fnvSize F) = 4 * fnvSize F ∨ ¬ n < 4 * fnvSize F ∧ max n (4 * fnvSize F) = n := by omega
    have Hi := Lib.hid hi
    have B11 : B ≤ 11 := by omega
    clear hi hsp c
    rcases hx with ⟨x1, x2⟩ | ⟨x1, x2⟩
    all_goals
      rw [x2] at Hi
      clear x2
      by_cases m : plMay F n B = true
      · have d1 := of_decide_eq_true (Hi.out.symm.trans m)
        by_cases h1 : B ≤ 1
        · clear Hi
          go_enter Try.func10, Try.ntmps10
          go_wp2_with (first | (go_at_call 34; refine (c_May _ _ _ _ (by omega) (by omega) (by omega) (by omega) (by omega) (by omega)).mono ?_; rintro e w' ⟨rfl, rfl⟩) | (go_at_call 32; refine (c_Word _ _ _).mono ?_; rintro e w' ⟨rfl, rfl⟩) | (go_at_call 30; refine (c_Spots _ _ (plWord_bd _ _).1 (plWord_lt _ _)).mono ?_; rintro e w' ⟨rfl, rfl⟩) | (go_at_call 21; refine (c_Size _ _ (by omega) (by omega)).mono ?_; rintro e w' ⟨rfl, rfl⟩) | (go_at_call 33; refine (viaC (c_lives08 _)).mono ?_; rintro e w' ⟨rfl, m1, rfl⟩))
          all_goals (go_ret; exact ⟨rfl, below_via (Below.refl _ _) _⟩)
        · have m2 := may_less (f := F) (n := n) (show 2 ≤ B by omega) (by omega) m
          clear Hi
          go_enter Try.func10, Try.ntmps10
          go_wp2_with (first | (go_at_call 34; refine (c_May _ _ _ _ (by omega) (by omega) (by omega) (by omega) (by omega) (by omega)).mono ?_; rintro e w' ⟨rfl, rfl⟩) | (go_at_call 32; refine (c_Word _ _ _).mono ?_; rintro e w' ⟨rfl, rfl⟩) | (go_at_call 30; refine (c_Spots _ _ (plWord_bd _ _).1 (plWord_lt _ _)).mono ?_; rintro e w' ⟨rfl, rfl⟩) | (go_at_call 21; refine (c_Size _ _ (by omega) (by omega)).mono ?_; rintro e w' ⟨rfl, rfl⟩) | (go_at_call 33; refine (viaC (c_lives08 _)).mono ?_; rintro e w' ⟨rfl, m1, rfl⟩))
          all_goals (go_ret; exact ⟨rfl, below_via (Below.refl _ _) _⟩)
      · have m' : plMay F n B = false := by simpa using m
        have d1 := of_decide_eq_false (Hi.out.symm.trans m')
        clear Hi m
        go_enter Try.func10, Try.ntmps10
        go_wp2_with (first | (go_at_call 34; refine (c_May _ _ _ _ (by omega) (by omega) (by omega) (by omega) (by omega) (by omega)).mono ?_; rintro e w' ⟨rfl, rfl⟩) | (go_at_call 32; refine (c_Word _ _ _).mono ?_; rintro e w' ⟨rfl, rfl⟩) | (go_at_call 30; refine (c_Spots _ _ (plWord_bd _ _).1 (plWord_lt _ _)).mono ?_; rintro e w' ⟨rfl, rfl⟩) | (go_at_call 21; refine (c_Size _ _ (by omega) (by omega)).mono ?_; rintro e w' ⟨rfl, rfl⟩) | (go_at_call 33; refine (viaC (c_lives08 _)).mono ?_; rintro e w' ⟨rfl, m1, rfl⟩))
        all_goals (go_ret; exact ⟨rfl, below_via (Below.refl _ _) _⟩)

theorem at_parts (x i : Int) (i0 : 0 ≤ i) (i1 : i < plSpots x) :
    (plAtBits x i = plOld x ∧ plAtN x i = i ∧ i < 4 * fnvSize (plOld x)) ∨ (plAtBits x i = plNow x ∧ plNow x = plOld x + 1 ∧ plAtN x i = i - 4 * fnvSize (plOld x) ∧ 4 * fnvSize (plOld x) ≤ i ∧ i < 4 * fnvSize (plOld x) + 4 * fnvSize (plNow x)) := by
  have e : i % plSpots x = i := Int.emod_eq_of_lt i0 i1
  have hn := plNow_cases x
  by_cases c : i < 4 * fnvSize (plOld x)
  · left; exact ⟨by unfold plAtBits; rw [e, if_pos c], by unfold plAtN; rw [e, if_pos c], c⟩
  · right
    refine ⟨by unfold plAtBits; rw [e, if_neg c], ?_, by unfold plAtN; rw [e, if_neg c], by omega, by unfold plSpots at i1; omega⟩
    rcases hn with h | h
    · exfalso
      unfold plSpots at i1
      rw [h, fnvSize_out (b := 0) (by omega)] at i1
      omega
    · exact h.1
theorem at_inj {x i k : Int} (i0 : 0 ≤ i) (i1 : i < plSpots x) (k0 : 0 ≤ k) (k1 : k < plSpots x) (h : i ≠ k) :
    ¬ plAtBits x i = plAtBits x k ∨ (plAtBits x i = plAtBits x k ∧ ¬ plAtN x i / 4 = plAtN x k / 4) ∨ (plAtBits x i = plAtBits x k ∧ plAtN x i / 4 = plAtN x k / 4 ∧ ¬ i % 4 = k % 4) := by
  have h1 := at_parts x i i0 i1
  have h2 := at_parts x k k0 k1
  have h3 := plOld_bd x
  omega
theorem at_round {x i : Int} : plAtBits x (i + plSpots x) = plAtBits x i ∧ plAtN x (i + plSpots x) = plAtN x i ∧ plAtBits x (i - plSpots x) = plAtBits x i ∧ plAtN x (i - plSpots x) = plAtN x i := by
  unfold plAtBits plAtN
  rw [Int.add_emod_right, Int.sub_emod_right]
  exact ⟨rfl, rfl, rfl, rfl⟩

set_option maxHeartbeats 1000000 in
theorem w_PlacesOnce (x m n : Int) (w : World) (x0 : 0 ≤ x) (x1' : x ≤ 18446744073709551615) (m0 : 0 ≤ m) (m1 : m ≤ 65535) (n0 : 0 ≤ n) (n1 : n ≤ 65535) :
    Calls Try.prog 9 #[.int .u64 x, .int .u16 m, .int .u16 n] w fun e w' => e = .returned (.bool true) ∧ Below w.heap.size w w' := by
  have x1 : x < 18446744073709551616 := by omega
  have hs := plSpots_bd x
  obtain ⟨i, hi, i0, i1⟩ : ∃ i : Int, m % plSpots x = i ∧ 0 ≤ i ∧ i < plSpots x := ⟨_, rfl, Int.emod_nonneg m (by omega), Int.emod_lt_of_pos m (by omega)⟩
  obtain ⟨k, hk, k0, k1⟩ : ∃ k : Int, n % plSpots x = k ∧ 0 ≤ k ∧ k < plSpots x := ⟨_, rfl, Int.emod_nonneg n (by omega), Int.emod_lt_of_pos n (by omega)⟩
  have hii : i % plSpots x = i := Int.emod_eq_of_lt i0 i1
  have hkk : k % plSpots x = k := Int.emod_eq_of_lt k0 k1
  have hP := at_parts x i i0 i1
  have ho := plOld_bd x
  have hn := plNow_bd x
  have hnc := plNow_cases x
  have hsz := fnvSize_bd (plOld x)
  have hsz2 := fnvSize_bd (plNow x)
  obtain ⟨r1, r2, r3, r4⟩ := at_round (x := x) (i := i)
  have hW : plWord (plOld x) (plNow x) = plOld x + 256 * plNow x := by unfold plWord; omega
  have hW2 : (plOld x + 256 * plNow x) % 65536 = plOld x + 256 * plNow x := by omega
  have hI := at_inj (x := x) (i := i) (k := k) i0 i1 k0 k1
  obtain ⟨a0, ha0⟩ : ∃ y, plAtBits x i = y := ⟨_, rfl⟩
  obtain ⟨a1, ha1⟩ : ∃ y, plAtN x i / 4 = y := ⟨_, rfl⟩
  obtain ⟨b0, hb0⟩ : ∃ y, plAtBits x k = y := ⟨_, rfl⟩
  obtain ⟨b1, hb1⟩ : ∃ y, plAtN x k / 4 = y := ⟨_, rfl⟩
  rw [ha0, ha1, hb0, hb1] at hI
  rw [ha0] at hP r1 r3
  have r2' : plAtN x (i + plSpots x) / 4 = a1 := by rw [r2, ha1]
  have r4' : plAtN x (i - plSpots x) / 4 = a1 := by rw [r4, ha1]
  have A1 : 0 ≤ a1 ∧ a1 < fnvSize a0 := by
    rcases hP with ⟨h1, h2, h3⟩ | ⟨h1, h2, h3, h4, h5⟩ <;> (rw [h1]; omega)
  have A2 : (a0 != plOld x) = false ∨ ((a0 != plOld x) = true ∧ (a0 != plNow x) = false) := by
    rcases hP with ⟨h1, h2, h3⟩ | ⟨h1, h2, h3, h4, h5⟩
    · left; rw [h1]; simp
    · right; rw [h1]; exact ⟨by rw [bne_iff_ne]; omega, by simp⟩
  have A3 : 0 ≤ a0 ∧ a0 ≤ 12 := by
    rcases hP with ⟨h1, h2, h3⟩ | ⟨h1, h2, h3, h4, h5⟩ <;> (rw [h1]; omega)
  have D1 : decide (i % 4 < 0) = false := by simp; omega
  have D2 : decide (4 ≤ i % 4) = false := by simp; omega
  have D3 : decide (a1 < 0) = false := by simp; omega
  have D4 : decide (fnvSize a0 ≤ a1) = false := by simp; omega
  clear hP hnc r2 r4
  have hC : (i = k ∧ a0 = b0 ∧ a1 = b1) ∨ (((i == k) = false ∧ ¬ i = k) ∧ (¬ a0 = b0 ∨ (a0 = b0 ∧ ¬ a1 = b1) ∨ (a0 = b0 ∧ a1 = b1 ∧ ¬ i % 4 = k % 4))) := by
    by_cases h : i = k
    · subst h
      left; exact ⟨rfl, by rw [← ha0, ← hb0], by rw [← ha1, ← hb1]⟩
    · right; exact ⟨⟨beq_eq_false_iff_ne.2 h, h⟩, hI h⟩
  clear hI
  have Ha := Lib.hid (And.intro ha0 ha1)
  have Hb := Lib.hid (And.intro hb0 hb1)
  have Hr := Lib.hid (And.intro (And.intro r1 r2') (And.intro r3 r4'))
  clear ha0 ha1 hb0 hb1 r1 r2' r3 r4'
  rcases A2 with A2 | ⟨A2, A2'⟩
  all_goals rcases hC with ⟨h1, h2, h3⟩ | ⟨⟨h1, h1'⟩, h2 | ⟨h2, h3⟩ | ⟨h2, h3, h4⟩⟩
  all_goals (try subst h1)
  all_goals (try subst h2)
  all_goals (try subst h3)
  all_goals
    go_enter Try.func9, Try.ntmps9
    go_wp2_with (first | (go_at_call 29; refine (c_As _ _ x0 x1).mono ?_; rintro e w' ⟨rfl, rfl⟩) | (go_at_call 30; refine (c_Spots _ _ x0 x1).mono ?_; rintro e w' ⟨rfl, rfl⟩))
    refine (c_At x i _ x0 x1 (by omega) (by omega)).mono ?_
    rw [Ha.out.1, Ha.out.2, hii]
    rintro e w1 ⟨rfl, hB1⟩
    go_wp2_with fail
    refine (c_At x _ _ x0 x1 (by omega) (by omega)).mono ?_
    rw [Hb.out.1, Hb.out.2]
    try rw [hkk]
    try rw [hii]
    rintro e w2 ⟨rfl, hB2⟩
    have q0 : w2.cell? ⟨w1.heap.size, 0, none⟩ = some (.int .i64 a0) := by rw [hB2.cell (p := ⟨w1.heap.size, 0, none⟩) (by simp)]; simp
    have q1 : w2.cell? ⟨w1.heap.size, 1, none⟩ = some (.int .i64 a1) := by rw [hB2.cell (p := ⟨w1.heap.size, 1, none⟩) (by simp)]; simp
    have q2 : w2.cell? ⟨w1.heap.size, 2, none⟩ = some (.int .i64 (i % 4)) := by rw [hB2.cell (p := ⟨w1.heap.size, 2, none⟩) (by simp)]; simp
    have hz1 : w1.heap.size < w2.heap.size := Nat.lt_of_lt_of_le (by simp) hB2.size
    have hz2 : w1.heap.size ≤ w2.heap.size := Nat.le_of_lt hz1
    have hB : Below w.heap.size w w2 := (hB1.alloc hB1.size _).trans (hB2.mono (Nat.le_trans hB1.size (by simp)))
    clear hB2
    go_wp2_with fail
    refine wp_region_via (by kernel_rfl) (by kernel_rfl) ?_
    repeat (go_big_quiet_step ((go_at_call 21; exact viaS (c_Size _ _ (by omega) (by omega)))))
    refine wpQuiet_nil ?_
    rintro w3 ⟨e, he⟩
    have hb3 := via_below _ e
    rw [← he] at hb3
    have p0 := (keep1 (j := 0) hb3 hz1).trans q0
    have p1 := (keep1 (j := 1) hb3 hz1).trans q1
    have p2 := (keep1 (j := 2) hb3 hz1).trans q2
    have hz3 : w1.heap.size < w3.heap.size := Nat.lt_of_lt_of_le (by simp; omega) hb3.size
    have hB3 : Below w.heap.size w w3 := (hB.alloc hB.size _).trans (hb3.mono (Nat.le_trans hB.size (by simp)))
    have R := Hr.out
    clear Ha Hb Hr hb3 he e
    obtain ⟨⟨r1, r2⟩, r3, r4⟩ := R
    go_wp2_with fail
    refine wp_region_via (by kernel_rfl) (by kernel_rfl) ?_
    repeat (go_big_quiet_step ((first | (go_at_call 31; exact viaB (c_At _ _ _ x0 x1 (by omega) (by omega))) | (go_at_call 32; exact viaS (c_Word _ _ _)) | (go_at_call 33; exact viaB (c_lives08 _)))))
    refine wpQuiet_nil ?_
    rintro _ ⟨e, rfl⟩
    go_wp2
    go_ret
    exact ⟨rfl, below_via hB3 _⟩
end Go.Proofs.Ytlaholgclcffaaa
