/- Contracts of the document's functions of layer 8. -/
import Derived.Test.YtlaholgclcffaaaPlWalks
namespace Go.Proofs.Ytlaholgclcffaaa
open Go.RowKit
set_option linter.unusedVariables false

theorem c_rAs (x : Int) (w : World) (x0 : 0 ≤ x) (x1 : x < 18446744073709551616) :
    Calls Try.prog 35 #[.int .u64 x] w fun e w' => e = .returned (.tuple #[.int .i64 (plOld x), .int .i64 (plNow x)]) ∧ w = w' := by
  by_cases c1 : 1 ≤ x % 256 ∧ x % 256 ≤ 12
  · have Ho := Lib.hid (show plOld x = x % 256 from by unfold plOld; rw [if_pos c1])
    obtain ⟨c1a, c1b⟩ := c1
    by_cases c3 : x / 256 % 256 ≤ 12
    · by_cases c2 : x / 256 % 256 = x % 256 + 1
      · have Hn := Lib.hid (show plNow x = x / 256 % 256 from by unfold plNow; rw [if_pos ⟨by rw [Ho.out]; exact c2, c3⟩])
        have d2 : (x / 256 % 256 != x % 256 + 1) = false := by rw [c2]; simp
        rw [Ho.out, Hn.out]
        clear c2
        go_enter Try.func35, Try.ntmps35
        go_wp2
        go_ret2
        exact ⟨rfl, rfl⟩
      · have Hn := Lib.hid (show plNow x = 0 from by unfold plNow; rw [if_neg (by rw [Ho.out]; omega)])
        have d2 : (x / 256 % 256 != x % 256 + 1) = true := by rw [bne_iff_ne]; exact c2
        rw [Ho.out, Hn.out]
        clear c2
        go_enter Try.func35, Try.ntmps35
        go_wp2
        go_ret2
        exact ⟨rfl, rfl⟩
    · have Hn := Lib.hid (show plNow x = 0 from by unfold plNow; rw [if_neg (by omega)])
      have c3' : 12 < x / 256 % 256 := by omega
      rw [Ho.out, Hn.out]
      clear c3
      go_enter Try.func35, Try.ntmps35
      go_wp2
      go_ret2
      exact ⟨rfl, rfl⟩
  · have Ho := Lib.hid (show plOld x = 1 from by unfold plOld; rw [if_neg c1])
    have d0 : (x % 256 < 1) ∨ (¬ x % 256 < 1 ∧ 12 < x % 256) := by omega
    by_cases c3 : x / 256 % 256 ≤ 12
    · by_cases c2 : x / 256 % 256 = 2
      · have Hn := Lib.hid (show plNow x = x / 256 % 256 from by unfold plNow; rw [if_pos ⟨by rw [Ho.out]; exact c2, by omega⟩])
        have d2 : (x / 256 % 256 != 2) = false := by rw [c2]; rfl
        rw [Ho.out, Hn.out]
        clear c2 c1
        rcases d0 with d0 | ⟨d0, d1⟩
        all_goals
          go_enter Try.func35, Try.ntmps35
          go_wp2
          go_ret2
          exact ⟨rfl, rfl⟩
      · have Hn := Lib.hid (show plNow x = 0 from by unfold plNow; rw [if_neg (by rw [Ho.out]; omega)])
        have d2 : (x / 256 % 256 != 2) = true := by rw [bne_iff_ne]; exact c2
        rw [Ho.out, Hn.out]
        clear c2 c1
        rcases d0 with d0 | ⟨d0, d1⟩
        all_goals
          go_enter Try.func35, Try.ntmps35
          go_wp2
          go_ret2
          exact ⟨rfl, rfl⟩
    · have Hn := Lib.hid (show plNow x = 0 from by unfold plNow; rw [if_neg (by omega)])
      have c3' : 12 < x / 256 % 256 := by omega
      rw [Ho.out, Hn.out]
      clear c3 c1
      rcases d0 with d0 | ⟨d0, d1⟩
      all_goals
        go_enter Try.func35, Try.ntmps35
        go_wp2
        go_ret2
        exact ⟨rfl, rfl⟩

theorem c_rSpots (x : Int) (w : World) (x0 : 0 ≤ x) (x1 : x < 18446744073709551616) :
    Calls Try.prog 38 #[.int .u64 x] w fun e w' => e = .returned (.int .i64 (plSpots x)) ∧ w = w' := by
  have ho := plOld_bd x
  have hn := plNow_bd x
  have h1 := fnvSize_bd (plOld x)
  have h2 := fnvSize_bd (plNow x)
  go_enter Try.func38, Try.ntmps38
  go_wp2_with (first | (go_at_call 35; refine (c_rAs _ _ x0 x1).mono ?_; rintro e w' ⟨rfl, rfl⟩) | (go_at_call 22; refine (c_rSize _ _ (by omega) (by omega)).mono ?_; rintro e w' ⟨rfl, rfl⟩))
  go_ret
  exact ⟨ret_int (by unfold plSpots; omega), rfl⟩

theorem c_rTarget (x : Int) (w : World) (x0 : 0 ≤ x) (x1 : x < 18446744073709551616) :
    Calls Try.prog 37 #[.int .u64 x] w fun e w' => e = .returned (.int .i64 (plTarget x)) ∧ w = w' := by
  have ho := plOld_bd x
  have hn := plNow_bd x
  rcases plNow_cases x with c | c
  · have Ht := Lib.hid (show plTarget x = plOld x by unfold plTarget; rw [if_pos c])
    have c' : plNow x ≤ 0 := by omega
    rw [Ht.out]
    clear c
    go_enter Try.func37, Try.ntmps37
    go_wp2_with (go_at_call 35; refine (c_rAs _ _ x0 x1).mono ?_; rintro e w' ⟨rfl, rfl⟩)
    all_goals (go_ret; exact ⟨rfl, rfl⟩)
  · have Ht := Lib.hid (show plTarget x = plNow x by unfold plTarget; rw [if_neg (by omega)])
    have c' : 0 < plNow x := by omega
    rw [Ht.out]
    clear c
    go_enter Try.func37, Try.ntmps37
    go_wp2_with (go_at_call 35; refine (c_rAs _ _ x0 x1).mono ?_; rintro e w' ⟨rfl, rfl⟩)
    all_goals (go_ret; exact ⟨rfl, rfl⟩)

theorem c_rWord (o n : Int) (w : World) :
    Calls Try.prog 40 #[.int .i64 o, .int .i64 n] w fun e w' => e = .returned (.int .u64 (plWord o n)) ∧ w = w' := by
  have h1 : 0 ≤ o % 256 ∧ o % 256 < 256 := by omega
  have h2 : 0 ≤ n % 256 ∧ n % 256 < 256 := by omega
  unfold plWord
  go_enter Try.func40, Try.ntmps40
  go_wp2
  go_ret
  exact ⟨ret_int (by simp only [IntKind.wrap_u64]; rw [Int.tmod_eq_emod_of_nonneg (by omega), Int.tmod_eq_emod_of_nonneg (by omega)]; omega), rfl⟩

theorem c_rRef (r : Int) (w : World) (r0 : -9223372036854775808 ≤ r) (r1 : r ≤ 9223372036854775807) :
    Calls Try.prog 47 #[.int .i64 r] w fun e w' => e = .returned (.int .u64 (plRef r)) ∧ w = w' := by
  by_cases c : r < 1
  · have Hm := Lib.hid (show plRef r = 0 by unfold plRef; rw [if_pos c])
    rw [Hm.out]
    go_enter Try.func47, Try.ntmps47
    go_wp2
    go_ret
    exact ⟨rfl, rfl⟩
  · have Hm := Lib.hid (show plRef r = 4294967296 + r by unfold plRef; rw [if_neg c])
    rw [Hm.out]
    go_enter Try.func47, Try.ntmps47
    go_wp2
    go_ret
    exact ⟨ret_int (by unfold wrap64; simp only [IntKind.wrap_u64]; omega), rfl⟩

theorem c_rthere (b k : Int) (w : World) (b0 : -9223372036854775808 ≤ b) (b1 : b ≤ 9223372036854775807) (k0 : -9223372036854775808 ≤ k) (k1 : k ≤ 9223372036854775807) :
    Calls Try.prog 56 #[.agg #[.int .i64 b, .int .i64 k]] w fun e w' => e = .returned (.bool (decide (0 ≤ k ∧ k < fnvSize b))) ∧ Below w.heap.size w w' := by
  have hs := fnvSize_bd b
  by_cases c1 : 0 ≤ k
  · have d1 : decide (0 ≤ k) = true := by simpa using c1
    by_cases c2 : k < fnvSize b
    · have d2 : decide (k < fnvSize b) = true := by simpa using c2
      rw [decide_eq_true (⟨c1, c2⟩ : 0 ≤ k ∧ k < fnvSize b)]
      go_enter Try.func56, Try.ntmps56
      go_wp2
      go_quiet ((go_at_call 22; exact quietS (c_rSize _ _ b0 b1)))
      go_wp2
      go_ret
      exact ⟨rfl, below_drewN ((Below.refl _ _).alloc (Nat.le_refl _) _) _⟩
    · have d2 : decide (k < fnvSize b) = false := by simpa using c2
      rw [decide_eq_false (show ¬ (0 ≤ k ∧ k < fnvSize b) by omega)]
      go_enter Try.func56, Try.ntmps56
      go_wp2
      go_quiet ((go_at_call 22; exact quietS (c_rSize _ _ b0 b1)))
      go_wp2
      go_ret
      exact ⟨rfl, below_drewN ((Below.refl _ _).alloc (Nat.le_refl _) _) _⟩
  · have d1 : decide (0 ≤ k) = false := by simpa using c1
    rw [decide_eq_false (show ¬ (0 ≤ k ∧ k < fnvSize b) by omega)]
    go_enter Try.func56, Try.ntmps56
    go_wp2
    go_quiet ((go_at_call 22; exact quietS (c_rSize _ _ b0 b1)))
    go_wp2
    go_ret
    exact ⟨rfl, below_drewN ((Below.refl _ _).alloc (Nat.le_refl _) _) _⟩

theorem c_rTags (b k : Int) (w : World) (b0 : -9223372036854775808 ≤ b) (b1 : b ≤ 9223372036854775807) (k0 : -9223372036854775808 ≤ k) (k1 : k ≤ 9223372036854775807) :
    Calls Try.prog 43 #[.agg #[.int .i64 b, .int .i64 k]] w fun e w' => e = .returned (.int .u64 (plTags b k)) ∧ Below w.heap.size w w' := by
  have hs := fnvSize_bd b
  by_cases c : 0 ≤ k ∧ k < fnvSize b
  · have Ht := Lib.hid (plTags_in c)
    have d := decide_eq_true c
    rw [Ht.out]
    obtain ⟨ca, cb⟩ := c
    go_enter Try.func43, Try.ntmps43
    go_wp2_with fail
    refine (c_rthere _ _ _ b0 b1 k0 k1).mono ?_
    rintro e w' ⟨rfl, hb⟩
    have q0 : w'.cell? ⟨w.heap.size, 0, none⟩ = some (.int .i64 b) := by rw [hb.cell (p := ⟨w.heap.size, 0, none⟩) (by simp)]; simp
    have q1 : w'.cell? ⟨w.heap.size, 1, none⟩ = some (.int .i64 k) := by rw [hb.cell (p := ⟨w.heap.size, 1, none⟩) (by simp)]; simp
    go_wp2_with fail
    go_quiet ((go_at_call 22; exact quietS (c_rSize _ _ b0 b1)))
    go_wp2
    go_ret
    exact ⟨ret_int (by omega), below_drewN (((Below.refl _ _).alloc (Nat.le_refl _) _).trans (hb.mono (by simp))) _⟩
  · have d := decide_eq_false c
    rw [plTags_out c]
    clear c
    go_enter Try.func43, Try.ntmps43
    go_wp2_with (go_at_call 56; refine (c_rthere _ _ _ b0 b1 k0 k1).mono ?_; rintro e w' ⟨rfl, hb⟩)
    go_ret
    exact ⟨rfl, ((Below.refl _ _).alloc (Nat.le_refl _) _).trans (hb.mono (by simp))⟩

theorem c_rVersion (b k : Int) (w : World) (b0 : -9223372036854775808 ≤ b) (b1 : b ≤ 9223372036854775807) (k0 : -9223372036854775808 ≤ k) (k1 : k ≤ 9223372036854775807) :
    Calls Try.prog 49 #[.agg #[.int .i64 b, .int .i64 k]] w fun e w' => e = .returned (.int .u64 (plVersion b k)) ∧ Below w.heap.size w w' := by
  have hs := fnvSize_bd b
  by_cases c : 0 ≤ k ∧ k < fnvSize b
  · have Ht := Lib.hid (plVersion_in c)
    have d := decide_eq_true c
    have hst : 0 ≤ fnvStripe b k ∧ fnvStripe b k < 64 := by unfold fnvStripe; rw [if_pos c]; omega
    rw [Ht.out]
    obtain ⟨ca, cb⟩ := c
    go_enter Try.func49, Try.ntmps49
    go_wp2_with fail
    refine (c_rthere _ _ _ b0 b1 k0 k1).mono ?_
    rintro e w' ⟨rfl, hb⟩
    have q0 : w'.cell? ⟨w.heap.size, 0, none⟩ = some (.int .i64 b) := by rw [hb.cell (p := ⟨w.heap.size, 0, none⟩) (by simp)]; simp
    have q1 : w'.cell? ⟨w.heap.size, 1, none⟩ = some (.int .i64 k) := by rw [hb.cell (p := ⟨w.heap.size, 1, none⟩) (by simp)]; simp
    go_wp2_with (go_at_call 28; refine (c_rStripe _ _ _ k0 k1 b0 b1).mono ?_; rintro e w'' ⟨rfl, hb'⟩)
    go_ret
    exact ⟨rfl, (((Below.refl _ _).alloc (Nat.le_refl _) _).trans (hb.mono (by simp))).trans (hb'.mono (Nat.le_trans (by simp) hb.size))⟩
  · have d := decide_eq_false c
    rw [plVersion_out c]
    clear c
    go_enter Try.func49, Try.ntmps49
    go_wp2_with (go_at_call 56; refine (c_rthere _ _ _ b0 b1 k0 k1).mono ?_; rintro e w' ⟨rfl, hb⟩)
    go_ret
    exact ⟨rfl, ((Below.refl _ _).alloc (Nat.le_refl _) _).trans (hb.mono (by simp))⟩

theorem c_rItem (b k s : Int) (w : World) (b0 : -9223372036854775808 ≤ b) (b1 : b ≤ 9223372036854775807) (k0 : -9223372036854775808 ≤ k) (k1 : k ≤ 9223372036854775807) (s0 : -9223372036854775808 ≤ s) (s1 : s ≤ 9223372036854775807) :
    Calls Try.prog 45 #[.agg #[.int .i64 b, .int .i64 k, .int .i64 s]] w fun e w' => e = .returned (.int .u64 (plItem b k s)) ∧ Below w.heap.size w w' := by
  have hs := fnvSize_bd b
  by_cases c : 0 ≤ k ∧ k < fnvSize b
  · have d := decide_eq_true c
    by_cases c2 : 0 ≤ s ∧ s ≤ 3
    · have Ht := Lib.hid (plItem_in c c2)
      have hT : 0 ≤ plTags b k ∧ plTags b k ≤ 1000000 := by rw [plTags_in c]; omega
      obtain ⟨ca, cb⟩ := c2
      have d1 : decide (s < 0) = false := by simp; omega
      have d2 : decide (3 < s) = false := by simp; omega
      rw [Ht.out]
      clear c
      go_enter Try.func45, Try.ntmps45
      go_wp2_with fail
      refine (c_rthere _ _ _ b0 b1 k0 k1).mono ?_
      rintro e w' ⟨rfl, hb⟩
      have q0 : w'.cell? ⟨w.heap.size, 0, none⟩ = some (.int .i64 b) := by rw [hb.cell (p := ⟨w.heap.size, 0, none⟩) (by simp)]; simp
      have q1 : w'.cell? ⟨w.heap.size, 1, none⟩ = some (.int .i64 k) := by rw [hb.cell (p := ⟨w.heap.size, 1, none⟩) (by simp)]; simp
      have q2 : w'.cell? ⟨w.heap.size, 2, none⟩ = some (.int .i64 s) := by rw [hb.cell (p := ⟨w.heap.size, 2, none⟩) (by simp)]; simp
      have hB : Below w.heap.size w w' := ((Below.refl _ _).alloc (Nat.le_refl _) _).trans (hb.mono (by simp))
      have hz : w.heap.size < w'.heap.size := Nat.lt_of_lt_of_le (by simp) hb.size
      clear hb
      go_wp2_with fail
      refine wp_region_via (by kernel_rfl) (by kernel_rfl) ?_
      repeat (go_big_quiet_step ((go_at_call 43; exact viaB (c_rTags _ _ _ b0 b1 k0 k1))))
      refine wpQuiet_nil ?_
      rintro _ ⟨e, rfl⟩
      go_wp2
      go_ret
      exact ⟨ret_int (by omega), hB.trans ((via_below _ e).mono hB.size)⟩
    · rw [plItem_out (by omega)]
      by_cases c3 : s < 0
      · have d1 : decide (s < 0) = true := by simp; omega
        clear c2 c
        go_enter Try.func45, Try.ntmps45
        go_wp2_with fail
        refine (c_rthere _ _ _ b0 b1 k0 k1).mono ?_
        rintro e w' ⟨rfl, hb⟩
        have q2 : w'.cell? ⟨w.heap.size, 2, none⟩ = some (.int .i64 s) := by rw [hb.cell (p := ⟨w.heap.size, 2, none⟩) (by simp)]; simp
        have hB : Below w.heap.size w w' := ((Below.refl _ _).alloc (Nat.le_refl _) _).trans (hb.mono (by simp))
        clear hb
        go_wp2_with fail
        go_ret
        exact ⟨rfl, hB⟩
      · have d1 : decide (s < 0) = false := by simp; omega
        have d2 : decide (3 < s) = true := by simp; omega
        clear c2 c
        go_enter Try.func45, Try.ntmps45
        go_wp2_with fail
        refine (c_rthere _ _ _ b0 b1 k0 k1).mono ?_
        rintro e w' ⟨rfl, hb⟩
        have q2 : w'.cell? ⟨w.heap.size, 2, none⟩ = some (.int .i64 s) := by rw [hb.cell (p := ⟨w.heap.size, 2, none⟩) (by simp)]; simp
        have hB : Below w.heap.size w w' := ((Below.refl _ _).alloc (Nat.le_refl _) _).trans (hb.mono (by simp))
        clear hb
        go_wp2_with fail
        go_ret
        exact ⟨rfl, hB⟩
  · have d := decide_eq_false c
    rw [plItem_out (by omega)]
    clear c
    go_enter Try.func45, Try.ntmps45
    go_wp2_with (go_at_call 56; refine (c_rthere _ _ _ b0 b1 k0 k1).mono ?_; rintro e w' ⟨rfl, hb⟩)
    go_ret
    exact ⟨rfl, ((Below.refl _ _).alloc (Nat.le_refl _) _).trans (hb.mono (by simp))⟩

theorem c_rAt (x n : Int) (w : World) (x0 : 0 ≤ x) (x1 : x < 18446744073709551616) (n0 : -9223372036854775808 ≤ n) (n1 : n ≤ 9223372036854775807) :
    Calls Try.prog 39 #[.int .u64 x, .int .i64 n] w fun e w' => e = .returned (.agg #[.int .i64 (plAtBits x n), .int .i64 (plAtN x n / 4), .int .i64 (n % plSpots x % 4)]) ∧ Below w.heap.size w w' := by
  have ho := plOld_bd x
  have hn := plNow_bd x
  have h1 := fnvSize_bd (plOld x)
  have h2 := fnvSize_bd (plNow x)
  have hs := plSpots_bd x
  have t1 := Int.tmod_lt_of_pos n (show 0 < plSpots x by omega)
  have t2 := Int.lt_tmod_of_pos n (show 0 < plSpots x by omega)
  have m1 := Int.emod_nonneg n (show plSpots x ≠ 0 by omega)
  have m2 := Int.emod_lt_of_pos n (show 0 < plSpots x by omega)
  have e1 : (n.tmod (plSpots x) + plSpots x) % plSpots x = n % plSpots x := by
    rw [← Int.tmod_eq_emod_of_nonneg (by omega)]; exact round_mod (by omega)
  have ee : (0 ≤ n.tmod (plSpots x) ∧ n.tmod (plSpots x) = n % plSpots x) ∨ (n.tmod (plSpots x) < 0 ∧ n.tmod (plSpots x) + plSpots x = n % plSpots x) := by
    rcases Int.lt_or_le (n.tmod (plSpots x)) 0 with h | h
    · right; exact ⟨h, by rw [← e1, Int.emod_eq_of_lt (by omega) (by omega)]⟩
    · left; exact ⟨h, by rw [← e1, Int.add_emod_right, Int.emod_eq_of_lt h (by omega)]⟩
  clear e1
  have hv : plAtBits x n = plOld x ∧ plAtN x n = n % plSpots x ∧ n % plSpots x < 4 * fnvSize (plOld x) ∨ plAtBits x n = plNow x ∧ plAtN x n = n % plSpots x - 4 * fnvSize (plOld x) ∧ 4 * fnvSize (plOld x) ≤ n % plSpots x := by
    by_cases c : n % plSpots x < 4 * fnvSize (plOld x)
    · left; exact ⟨by unfold plAtBits; rw [if_pos c], by unfold plAtN; rw [if_pos c], c⟩
    · right; exact ⟨by unfold plAtBits; rw [if_neg c], by unfold plAtN; rw [if_neg c], by omega⟩
  rcases hv with ⟨hb, hN, c⟩ | ⟨hb, hN, c⟩
  · rw [hb, hN]
    clear hb hN
    rcases ee with ⟨d1, d2⟩ | ⟨d1, d2⟩
    all_goals
      go_enter Try.func39, Try.ntmps39
      go_wp2_with (first | (go_at_call 35; refine (c_rAs _ _ x0 x1).mono ?_; rintro e w' ⟨rfl, rfl⟩) | (go_at_call 38; refine (c_rSpots _ _ x0 x1).mono ?_; rintro e w' ⟨rfl, rfl⟩) | (go_at_call 22; refine (c_rSize _ _ (by omega) (by omega)).mono ?_; rintro e w' ⟨rfl, rfl⟩))
      exact bodyPost_ret (v := .agg #[.int .i64 (plOld x), .int .i64 (n % plSpots x / 4), .int .i64 (n % plSpots x % 4)]) (by simp [results, Try.results39, go_sem]) rfl ⟨rfl, (Below.refl _ _).alloc (Nat.le_refl _) _⟩
  · rw [hb, hN]
    clear hb hN
    rcases ee with ⟨d1, d2⟩ | ⟨d1, d2⟩
    all_goals
      go_enter Try.func39, Try.ntmps39
      go_wp2_with (first | (go_at_call 35; refine (c_rAs _ _ x0 x1).mono ?_; rintro e w' ⟨rfl, rfl⟩) | (go_at_call 38; refine (c_rSpots _ _ x0 x1).mono ?_; rintro e w' ⟨rfl, rfl⟩) | (go_at_call 22; refine (c_rSize _ _ (by omega) (by omega)).mono ?_; rintro e w' ⟨rfl, rfl⟩))
      exact bodyPost_ret (v := .agg #[.int .i64 (plNow x), .int .i64 ((n % plSpots x - 4 * fnvSize (plOld x)) / 4), .int .i64 (n % plSpots x % 4)]) (by simp [results, Try.results39, go_sem]) rfl ⟨rfl, (Below.refl _ _).alloc (Nat.le_refl _) _⟩

theorem c_rMay (f g b : Int) (w : World) (f0 : -9223372036854775808 ≤ f) (f1 : f ≤ 9223372036854775807) (g0 : -9223372036854775808 ≤ g) (g1 : g ≤ 9223372036854775807) (b0 : -9223372036854775808 ≤ b) (b1 : b ≤ 9223372036854775807) :
    Calls Try.prog 41 #[.int .i64 f, .int .i64 g, .int .i64 b] w fun e w' => e = .returned (.bool (plMay f g b)) ∧ w = w' := by
  have hf := fnvSize_bd f
  have hb := fnvSize_bd b
  have hb3 := fnvSize_bd (b + 1)
  by_cases c1 : 1 ≤ f ∧ f ≤ 12 ∧ 1 ≤ b ∧ b ≤ 11
  · have Hm := Lib.hid (show plMay f g b = decide (4 * (fnvSize b + fnvSize (b + 1)) ≤ 8 * max (min g 65536) (4 * fnvSize f)) by unfold plMay; rw [decide_eq_decide]; omega)
    rw [Hm.out]
    obtain ⟨a1, a2, a3, a4⟩ := c1
    have cc : 65536 < g ∨ (¬ 65536 < g ∧ 4 * fnvSize f < g) ∨ (¬ 65536 < g ∧ ¬ 4 * fnvSize f < g) := by omega
    rcases cc with d1 | ⟨d1, d2⟩ | ⟨d1, d2⟩
    all_goals
      go_enter Try.func41, Try.ntmps41
      go_wp2_with (go_at_call 22; refine (c_rSize _ _ (by omega) (by omega)).mono ?_; rintro e w' ⟨rfl, rfl⟩)
      all_goals (go_ret; exact ⟨ret_bool (by rw [decide_eq_decide]; omega), rfl⟩)
  · have Hm := Lib.hid (show plMay f g b = false by unfold plMay; rw [decide_eq_false_iff_not]; omega)
    rw [Hm.out]
    have cc : f < 1 ∨ (1 ≤ f ∧ 12 < f) ∨ (1 ≤ f ∧ f ≤ 12 ∧ b < 1) ∨ (1 ≤ f ∧ f ≤ 12 ∧ 1 ≤ b ∧ 11 < b) := by omega
    clear c1
    rcases cc with d1 | ⟨d1, d2⟩ | ⟨d1, d2, d3⟩ | ⟨d1, d2, d3, d4⟩
    all_goals
      go_enter Try.func41, Try.ntmps41
      go_wp2_with (go_at_call 22; refine (c_rSize _ _ (by omega) (by omega)).mono ?_; rintro e w' ⟨rfl, rfl⟩)
      all_goals (go_ret; exact ⟨rfl, rfl⟩)
end Go.Proofs.Ytlaholgclcffaaa
