/- Contracts of layer 8's functions. -/
import Derived.Test.YtlaholgclcffaaaPlPlain
import Derived.Test.YtlaholgclcffaaaFnvRef
namespace Go.Proofs.Ytlaholgclcffaaa
open Go.RowKit
set_option linter.unusedVariables false

theorem size0 {b : Int} : (fnvSize b == 0) = decide (b < 1 ∨ 12 < b) := by
  rw [Bool.eq_iff_iff]
  simp only [beq_iff_eq, decide_eq_true_eq]
  have := fnvSize_iff b
  have := fnvSize_bd b
  omega

theorem c_As (x : Int) (w : World) (x0 : 0 ≤ x) (x1 : x < 18446744073709551616) :
    Calls Try.prog 29 #[.int .u64 x] w fun e w' => e = .returned (.tuple #[.int .i64 (plOld x), .int .i64 (plNow x)]) ∧ w = w' := by
  by_cases c1 : 1 ≤ x % 256 ∧ x % 256 ≤ 12
  · have Ho := Lib.hid (show plOld x = x % 256 from by unfold plOld; rw [if_pos c1])
    have s1 : (fnvSize (x % 256) == 0) = false := by rw [size0]; simp; omega
    by_cases c2 : x / 256 % 256 = x % 256 + 1
    · by_cases c3 : x / 256 % 256 ≤ 12
      · have Hn := Lib.hid (show plNow x = x / 256 % 256 from by unfold plNow; rw [if_pos ⟨by rw [Ho.out]; exact c2, c3⟩])
        have s2 : (fnvSize (x / 256 % 256) == 0) = false := by rw [size0]; simp; omega
        have d2 : (x / 256 % 256 != x % 256 + 1) = false := by rw [c2]; simp
        rw [Ho.out, Hn.out]
        clear c2
        go_enter Try.func29, Try.ntmps29
        go_wp2_with (go_at_call 21; refine (c_Size _ _ (by omega) (by omega)).mono ?_; rintro e w' ⟨rfl, rfl⟩)
        go_ret2
        exact ⟨rfl, rfl⟩
      · have Hn := Lib.hid (show plNow x = 0 from by unfold plNow; rw [if_neg (by omega)])
        have s2 : (fnvSize (x / 256 % 256) == 0) = true := by rw [size0]; simp; omega
        have d2 : (x / 256 % 256 != x % 256 + 1) = false := by rw [c2]; simp
        rw [Ho.out, Hn.out]
        clear c2
        go_enter Try.func29, Try.ntmps29
        go_wp2_with (go_at_call 21; refine (c_Size _ _ (by omega) (by omega)).mono ?_; rintro e w' ⟨rfl, rfl⟩)
        go_ret2
        exact ⟨rfl, rfl⟩
    · have Hn := Lib.hid (show plNow x = 0 from by unfold plNow; rw [if_neg (by rw [Ho.out]; omega)])
      have d2 : (x / 256 % 256 != x % 256 + 1) = true := by rw [bne_iff_ne]; exact c2
      rw [Ho.out, Hn.out]
      clear c2
      go_enter Try.func29, Try.ntmps29
      go_wp2_with (go_at_call 21; refine (c_Size _ _ (by omega) (by omega)).mono ?_; rintro e w' ⟨rfl, rfl⟩)
      go_ret2
      exact ⟨rfl, rfl⟩
  · have Ho := Lib.hid (show plOld x = 1 from by unfold plOld; rw [if_neg c1])
    have s1 : (fnvSize (x % 256) == 0) = true := by rw [size0]; simp; omega
    by_cases c2 : x / 256 % 256 = 2
    · have Hn := Lib.hid (show plNow x = x / 256 % 256 from by unfold plNow; rw [if_pos ⟨by rw [Ho.out]; exact c2, by omega⟩])
      have s2 : (fnvSize (x / 256 % 256) == 0) = false := by rw [size0]; simp; omega
      have d2 : (x / 256 % 256 != 2) = false := by rw [c2]; rfl
      rw [Ho.out, Hn.out]
      clear c2 c1
      go_enter Try.func29, Try.ntmps29
      go_wp2_with (go_at_call 21; refine (c_Size _ _ (by omega) (by omega)).mono ?_; rintro e w' ⟨rfl, rfl⟩)
      go_ret2
      exact ⟨rfl, rfl⟩
    · have Hn := Lib.hid (show plNow x = 0 from by unfold plNow; rw [if_neg (by rw [Ho.out]; omega)])
      have d2 : (x / 256 % 256 != 2) = true := by rw [bne_iff_ne]; exact c2
      rw [Ho.out, Hn.out]
      clear c2 c1
      go_enter Try.func29, Try.ntmps29
      go_wp2_with (go_at_call 21; refine (c_Size _ _ (by omega) (by omega)).mono ?_; rintro e w' ⟨rfl, rfl⟩)
      go_ret2
      exact ⟨rfl, rfl⟩

theorem c_Spots (x : Int) (w : World) (x0 : 0 ≤ x) (x1 : x < 18446744073709551616) :
    Calls Try.prog 30 #[.int .u64 x] w fun e w' => e = .returned (.int .i64 (plSpots x)) ∧ w = w' := by
  have ho := plOld_bd x
  have hn := plNow_bd x
  have h1 := fnvSize_bd (plOld x)
  have h2 := fnvSize_bd (plNow x)
  go_enter Try.func30, Try.ntmps30
  go_wp2_with (first | (go_at_call 29; refine (c_As _ _ x0 x1).mono ?_; rintro e w' ⟨rfl, rfl⟩) | (go_at_call 21; refine (c_Size _ _ (by omega) (by omega)).mono ?_; rintro e w' ⟨rfl, rfl⟩))
  go_ret
  exact ⟨rfl, rfl⟩

theorem c_Target (x : Int) (w : World) (x0 : 0 ≤ x) (x1 : x < 18446744073709551616) :
    Calls Try.prog 36 #[.int .u64 x] w fun e w' => e = .returned (.int .i64 (plTarget x)) ∧ w = w' := by
  have ho := plOld_bd x
  have hn := plNow_bd x
  rcases plNow_cases x with c | c
  · have Ht := Lib.hid (show plTarget x = plOld x by unfold plTarget; rw [if_pos c])
    have c' : plNow x < plOld x := by omega
    rw [Ht.out]
    clear c
    go_enter Try.func36, Try.ntmps36
    go_wp2_with (go_at_call 29; refine (c_As _ _ x0 x1).mono ?_; rintro e w' ⟨rfl, rfl⟩)
    all_goals (go_ret; exact ⟨rfl, rfl⟩)
  · have Ht := Lib.hid (show plTarget x = plNow x by unfold plTarget; rw [if_neg (by omega)])
    have c' : plOld x < plNow x := by omega
    rw [Ht.out]
    clear c
    go_enter Try.func36, Try.ntmps36
    go_wp2_with (go_at_call 29; refine (c_As _ _ x0 x1).mono ?_; rintro e w' ⟨rfl, rfl⟩)
    all_goals (go_ret; exact ⟨rfl, rfl⟩)

theorem c_Word (o n : Int) (w : World) :
    Calls Try.prog 32 #[.int .i64 o, .int .i64 n] w fun e w' => e = .returned (.int .u64 (plWord o n)) ∧ w = w' := by
  have h1 : 0 ≤ o % 256 ∧ o % 256 < 256 := by omega
  have h2 : 0 ≤ n % 256 ∧ n % 256 < 256 := by omega
  unfold plWord
  go_enter Try.func32, Try.ntmps32
  go_wp2
  go_ret
  exact ⟨rfl, rfl⟩

theorem c_At (x n : Int) (w : World) (x0 : 0 ≤ x) (x1 : x < 18446744073709551616) (n0 : -9223372036854775808 ≤ n) (n1 : n ≤ 9223372036854775807) :
    Calls Try.prog 31 #[.int .u64 x, .int .i64 n] w fun e w' => e = .returned (.agg #[.int .i64 (plAtBits x n), .int .i64 (plAtN x n / 4), .int .i64 (n % plSpots x % 4)]) ∧ Below w.heap.size w w' := by
  have ho := plOld_bd x
  have hn := plNow_bd x
  have h1 := fnvSize_bd (plOld x)
  have h2 := fnvSize_bd (plNow x)
  have hs := plSpots_bd x
  have t1 := Int.tmod_lt_of_pos n (show 0 < plSpots x by omega)
  have t2 := Int.lt_tmod_of_pos n (show 0 < plSpots x by omega)
  have m1 := Int.emod_nonneg n (show plSpots x ≠ 0 by omega)
  have m2 := Int.emod_lt_of_pos n (show 0 < plSpots x by omega)
  have e1 : (n.tmod (plSpots x) + plSpots x) % plSpots x = n % plSpots x := by
    rw [← Int.tmod_eq_emod_of_nonneg (by omega)]; exact round_mod (by omega)
  by_cases c : n % plSpots x < 4 * fnvSize (plOld x)
  · have Hb := Lib.hid (show plAtBits x n = plOld x by unfold plAtBits; rw [if_pos c])
    have Hn := Lib.hid (show plAtN x n = n % plSpots x by unfold plAtN; rw [if_pos c])
    rw [Hb.out, Hn.out]
    go_enter Try.func31, Try.ntmps31
    go_wp2_with (first | (go_at_call 29; refine (c_As _ _ x0 x1).mono ?_; rintro e w' ⟨rfl, rfl⟩) | (go_at_call 30; refine (c_Spots _ _ x0 x1).mono ?_; rintro e w' ⟨rfl, rfl⟩) | (go_at_call 21; refine (c_Size _ _ (by omega) (by omega)).mono ?_; rintro e w' ⟨rfl, rfl⟩))
    exact bodyPost_ret (v := .agg #[.int .i64 (plOld x), .int .i64 (n % plSpots x / 4), .int .i64 (n % plSpots x % 4)]) (by simp [results, Try.results31, go_sem]) rfl ⟨rfl, (Below.refl _ _).alloc (Nat.le_refl _) _⟩
  · have Hb := Lib.hid (show plAtBits x n = plNow x by unfold plAtBits; rw [if_neg c])
    have Hn := Lib.hid (show plAtN x n = n % plSpots x - 4 * fnvSize (plOld x) by unfold plAtN; rw [if_neg c])
    rw [Hb.out, Hn.out]
    go_enter Try.func31, Try.ntmps31
    go_wp2_with (first | (go_at_call 29; refine (c_As _ _ x0 x1).mono ?_; rintro e w' ⟨rfl, rfl⟩) | (go_at_call 30; refine (c_Spots _ _ x0 x1).mono ?_; rintro e w' ⟨rfl, rfl⟩) | (go_at_call 21; refine (c_Size _ _ (by omega) (by omega)).mono ?_; rintro e w' ⟨rfl, rfl⟩))
    exact bodyPost_ret (v := .agg #[.int .i64 (plNow x), .int .i64 ((n % plSpots x - 4 * fnvSize (plOld x)) / 4), .int .i64 (n % plSpots x % 4)]) (by simp [results, Try.results31, go_sem]) rfl ⟨rfl, (Below.refl _ _).alloc (Nat.le_refl _) _⟩

theorem c_May (f g b : Int) (w : World) (f0 : -9223372036854775808 ≤ f) (f1 : f ≤ 9223372036854775807) (g0 : -9223372036854775808 ≤ g) (g1 : g ≤ 9223372036854775807) (b0 : -9223372036854775808 ≤ b) (b1 : b ≤ 9223372036854775807) :
    Calls Try.prog 34 #[.int .i64 f, .int .i64 g, .int .i64 b] w fun e w' => e = .returned (.bool (plMay f g b)) ∧ w = w' := by
  have hf := fnvSize_bd f
  have hb := fnvSize_bd b
  have hw : -9223372036854775808 ≤ wrap64 (b + 1) ∧ wrap64 (b + 1) ≤ 9223372036854775807 := by unfold wrap64; omega
  have hb2 := fnvSize_bd (wrap64 (b + 1))
  have eb : (fnvSize b == 0) = true ∨ (fnvSize (wrap64 (b + 1))) = fnvSize (b + 1) := by
    by_cases c : b = 9223372036854775807
    · left; rw [size0]; simp; omega
    · right; rw [IntWalk.wrap64_in _ (by omega)]
  by_cases c1 : 1 ≤ f ∧ f ≤ 12
  · have s1 : (fnvSize f == 0) = false := by rw [size0]; simp; omega
    by_cases c2 : 1 ≤ b ∧ b ≤ 12
    · have s2 : (fnvSize b == 0) = false := by rw [size0]; simp; omega
      have hb3 := fnvSize_bd (b + 1)
      by_cases c3 : b ≤ 11
      · have s3 : (fnvSize (b + 1) == 0) = false := by rw [size0]; simp; omega
        have Hm := Lib.hid (show plMay f g b = decide (4 * (fnvSize b + fnvSize (b + 1)) ≤ 8 * max (min g 65536) (4 * fnvSize f)) by unfold plMay; rw [decide_eq_decide]; omega)
        rw [Hm.out]
        clear eb hb2 hw
        go_enter Try.func34, Try.ntmps34
        go_wp2_with (go_at_call 21; refine (c_Size _ _ (by omega) (by omega)).mono ?_; rintro e w' ⟨rfl, rfl⟩)
        all_goals (go_ret; exact ⟨ret_bool (by rw [decide_eq_decide]; omega), rfl⟩)
      · have s3 : (fnvSize (b + 1) == 0) = true := by rw [size0]; simp; omega
        have Hm := Lib.hid (show plMay f g b = false by unfold plMay; rw [decide_eq_false_iff_not]; omega)
        rw [Hm.out]
        clear eb hb2 hw
        go_enter Try.func34, Try.ntmps34
        go_wp2_with (go_at_call 21; refine (c_Size _ _ (by omega) (by omega)).mono ?_; rintro e w' ⟨rfl, rfl⟩)
        go_ret
        exact ⟨rfl, rfl⟩
    · have s2 : (fnvSize b == 0) = true := by rw [size0]; simp; omega
      have Hm := Lib.hid (show plMay f g b = false by unfold plMay; rw [decide_eq_false_iff_not]; omega)
      rw [Hm.out]
      clear eb c2
      go_enter Try.func34, Try.ntmps34
      go_wp2_with (go_at_call 21; refine (c_Size _ _ (by omega) (by omega)).mono ?_; rintro e w' ⟨rfl, rfl⟩)
      all_goals (go_ret; exact ⟨rfl, rfl⟩)
  · have s1 : (fnvSize f == 0) = true := by rw [size0]; simp; omega
    have Hm := Lib.hid (show plMay f g b = false by unfold plMay; rw [decide_eq_false_iff_not]; omega)
    rw [Hm.out]
    clear eb c1
    go_enter Try.func34, Try.ntmps34
    go_wp2_with (go_at_call 21; refine (c_Size _ _ (by omega) (by omega)).mono ?_; rintro e w' ⟨rfl, rfl⟩)
    all_goals (go_ret; exact ⟨rfl, rfl⟩)

theorem c_Ref (r : Int) (w : World) (r0 : -9223372036854775808 ≤ r) (r1 : r ≤ 9223372036854775807) :
    Calls Try.prog 46 #[.int .i64 r] w fun e w' => e = .returned (.int .u64 (plRef r)) ∧ w = w' := by
  by_cases c : r < 1
  · have Hm := Lib.hid (show plRef r = 0 by unfold plRef; rw [if_pos c])
    rw [Hm.out]
    go_enter Try.func46, Try.ntmps46
    go_wp2
    go_ret
    exact ⟨rfl, rfl⟩
  · have Hm := Lib.hid (show plRef r = 4294967296 + r by unfold plRef; rw [if_neg c])
    rw [Hm.out]
    go_enter Try.func46, Try.ntmps46
    go_wp2
    go_ret
    exact ⟨rfl, rfl⟩

/-! ### the words' addresses: structs by value -/
theorem c_there (b k : Int) (w : World) (b0 : -9223372036854775808 ≤ b) (b1 : b ≤ 9223372036854775807) (k0 : -9223372036854775808 ≤ k) (k1 : k ≤ 9223372036854775807) :
    Calls Try.prog 55 #[.agg #[.int .i64 b, .int .i64 k]] w fun e w' => e = .returned (.bool (decide (0 ≤ k ∧ k < fnvSize b))) ∧ Below w.heap.size w w' := by
  have hs := fnvSize_bd b
  by_cases c1 : 0 ≤ k
  · have d1 : decide (0 ≤ k) = true := by simpa using c1
    by_cases c2 : k < fnvSize b
    · have d2 : decide (k < fnvSize b) = true := by simpa using c2
      rw [decide_eq_true (⟨c1, c2⟩ : 0 ≤ k ∧ k < fnvSize b)]
      go_enter Try.func55, Try.ntmps55
      go_wp2
      go_quiet ((go_at_call 21; exact quietS (c_Size _ _ b0 b1)))
      go_wp2
      go_ret
      exact ⟨rfl, below_drewN ((Below.refl _ _).alloc (Nat.le_refl _) _) _⟩
    · have d2 : decide (k < fnvSize b) = false := by simpa using c2
      rw [decide_eq_false (show ¬ (0 ≤ k ∧ k < fnvSize b) by omega)]
      go_enter Try.func55, Try.ntmps55
      go_wp2
      go_quiet ((go_at_call 21; exact quietS (c_Size _ _ b0 b1)))
      go_wp2
      go_ret
      exact ⟨rfl, below_drewN ((Below.refl _ _).alloc (Nat.le_refl _) _) _⟩
  · have d1 : decide (0 ≤ k) = false := by simpa using c1
    rw [decide_eq_false (show ¬ (0 ≤ k ∧ k < fnvSize b) by omega)]
    go_enter Try.func55, Try.ntmps55
    go_wp2
    go_quiet ((go_at_call 21; exact quietS (c_Size _ _ b0 b1)))
    go_wp2
    go_ret
    exact ⟨rfl, below_drewN ((Below.refl _ _).alloc (Nat.le_refl _) _) _⟩

theorem c_Tags (b k : Int) (w : World) (b0 : -9223372036854775808 ≤ b) (b1 : b ≤ 9223372036854775807) (k0 : -9223372036854775808 ≤ k) (k1 : k ≤ 9223372036854775807) :
    Calls Try.prog 42 #[.agg #[.int .i64 b, .int .i64 k]] w fun e w' => e = .returned (.int .u64 (plTags b k)) ∧ Below w.heap.size w w' := by
  have hs := fnvSize_bd b
  by_cases c : 0 ≤ k ∧ k < fnvSize b
  · have Ht := Lib.hid (plTags_in c)
    have d := decide_eq_true c
    rw [Ht.out]
    obtain ⟨ca, cb⟩ := c
    go_enter Try.func42, Try.ntmps42
    go_wp2_with fail
    refine (c_there _ _ _ b0 b1 k0 k1).mono ?_
    rintro e w' ⟨rfl, hb⟩
    have q0 : w'.cell? ⟨w.heap.size, 0, none⟩ = some (.int .i64 b) := by rw [hb.cell (p := ⟨w.heap.size, 0, none⟩) (by simp)]; simp
    have q1 : w'.cell? ⟨w.heap.size, 1, none⟩ = some (.int .i64 k) := by rw [hb.cell (p := ⟨w.heap.size, 1, none⟩) (by simp)]; simp
    go_wp2_with fail
    go_quiet ((go_at_call 21; exact quietS (c_Size _ _ b0 b1)))
    go_wp2
    go_ret
    exact ⟨by simp, below_drewN (((Below.refl _ _).alloc (Nat.le_refl _) _).trans (hb.mono (by simp))) _⟩
  · have d := decide_eq_false c
    rw [plTags_out c]
    clear c
    go_enter Try.func42, Try.ntmps42
    go_wp2_with (go_at_call 55; refine (c_there _ _ _ b0 b1 k0 k1).mono ?_; rintro e w' ⟨rfl, hb⟩)
    go_ret
    exact ⟨rfl, ((Below.refl _ _).alloc (Nat.le_refl _) _).trans (hb.mono (by simp))⟩

theorem c_Version (b k : Int) (w : World) (b0 : -9223372036854775808 ≤ b) (b1 : b ≤ 9223372036854775807) (k0 : -9223372036854775808 ≤ k) (k1 : k ≤ 9223372036854775807) :
    Calls Try.prog 48 #[.agg #[.int .i64 b, .int .i64 k]] w fun e w' => e = .returned (.int .u64 (plVersion b k)) ∧ Below w.heap.size w w' := by
  have hs := fnvSize_bd b
  by_cases c : 0 ≤ k ∧ k < fnvSize b
  · have Ht := Lib.hid (plVersion_in c)
    have d := decide_eq_true c
    have hst : 0 ≤ fnvStripe b k ∧ fnvStripe b k < 64 := by unfold fnvStripe; rw [if_pos c]; omega
    rw [Ht.out]
    obtain ⟨ca, cb⟩ := c
    go_enter Try.func48, Try.ntmps48
    go_wp2_with fail
    refine (c_there _ _ _ b0 b1 k0 k1).mono ?_
    rintro e w' ⟨rfl, hb⟩
    have q0 : w'.cell? ⟨w.heap.size, 0, none⟩ = some (.int .i64 b) := by rw [hb.cell (p := ⟨w.heap.size, 0, none⟩) (by simp)]; simp
    have q1 : w'.cell? ⟨w.heap.size, 1, none⟩ = some (.int .i64 k) := by rw [hb.cell (p := ⟨w.heap.size, 1, none⟩) (by simp)]; simp
    go_wp2_with (go_at_call 27; refine (c_Stripe _ _ _ k0 k1 b0 b1).mono ?_; rintro e w'' ⟨rfl, hb'⟩)
    go_ret
    exact ⟨rfl, (((Below.refl _ _).alloc (Nat.le_refl _) _).trans (hb.mono (by simp))).trans (hb'.mono (Nat.le_trans (by simp) hb.size))⟩
  · have d := decide_eq_false c
    rw [plVersion_out c]
    clear c
    go_enter Try.func48, Try.ntmps48
    go_wp2_with (go_at_call 55; refine (c_there _ _ _ b0 b1 k0 k1).mono ?_; rintro e w' ⟨rfl, hb⟩)
    go_ret
    exact ⟨rfl, ((Below.refl _ _).alloc (Nat.le_refl _) _).trans (hb.mono (by simp))⟩

theorem c_Item (b k s : Int) (w : World) (b0 : -9223372036854775808 ≤ b) (b1 : b ≤ 9223372036854775807) (k0 : -9223372036854775808 ≤ k) (k1 : k ≤ 9223372036854775807) (s0 : -9223372036854775808 ≤ s) (s1 : s ≤ 9223372036854775807) :
    Calls Try.prog 44 #[.agg #[.int .i64 b, .int .i64 k, .int .i64 s]] w fun e w' => e = .returned (.int .u64 (plItem b k s)) ∧ Below w.heap.size w w' := by
  have hs := fnvSize_bd b
  by_cases c : 0 ≤ k ∧ k < fnvSize b
  · have d := decide_eq_true c
    by_cases c2 : 0 ≤ s ∧ s ≤ 3
    · have Ht := Lib.hid (plItem_in c c2)
      have hT : 0 ≤ plTags b k ∧ plTags b k ≤ 1000000 := by rw [plTags_in c]; omega
      obtain ⟨ca, cb⟩ := c2
      have d1 : decide (s < 0) = false := by simp; omega
      have d2 : decide (4 ≤ s) = false := by simp; omega
      rw [Ht.out]
      clear c
      go_enter Try.func44, Try.ntmps44
      go_wp2_with fail
      refine (c_there _ _ _ b0 b1 k0 k1).mono ?_
      rintro e w' ⟨rfl, hb⟩
      have q0 : w'.cell? ⟨w.heap.size, 0, none⟩ = some (.int .i64 b) := by rw [hb.cell (p := ⟨w.heap.size, 0, none⟩) (by simp)]; simp
      have q1 : w'.cell? ⟨w.heap.size, 1, none⟩ = some (.int .i64 k) := by rw [hb.cell (p := ⟨w.heap.size, 1, none⟩) (by simp)]; simp
      have q2 : w'.cell? ⟨w.heap.size, 2, none⟩ = some (.int .i64 s) := by rw [hb.cell (p := ⟨w.heap.size, 2, none⟩) (by simp)]; simp
      have hB : Below w.heap.size w w' := ((Below.refl _ _).alloc (Nat.le_refl _) _).trans (hb.mono (by simp))
      have hz : w.heap.size < w'.heap.size := Nat.lt_of_lt_of_le (by simp) hb.size
      clear hb
      go_wp2_with fail
      refine wp_region_via (by kernel_rfl) (by kernel_rfl) ?_
      repeat (go_big_quiet_step ((go_at_call 42; exact viaB (c_Tags _ _ _ b0 b1 k0 k1))))
      refine wpQuiet_nil ?_
      rintro _ ⟨e, rfl⟩
      go_wp2
      go_ret
      exact ⟨rfl, hB.trans ((via_below _ e).mono hB.size)⟩
    · rw [plItem_out (by omega)]
      by_cases c3 : s < 0
      · have d1 : decide (s < 0) = true := by simp; omega
        clear c2 c
        go_enter Try.func44, Try.ntmps44
        go_wp2_with fail
        refine (c_there _ _ _ b0 b1 k0 k1).mono ?_
        rintro e w' ⟨rfl, hb⟩
        have q2 : w'.cell? ⟨w.heap.size, 2, none⟩ = some (.int .i64 s) := by rw [hb.cell (p := ⟨w.heap.size, 2, none⟩) (by simp)]; simp
        have hB : Below w.heap.size w w' := ((Below.refl _ _).alloc (Nat.le_refl _) _).trans (hb.mono (by simp))
        clear hb
        go_wp2_with fail
        go_ret
        exact ⟨rfl, hB⟩
      · have d1 : decide (s < 0) = false := by simp; omega
        have d2 : decide (4 ≤ s) = true := by simp; omega
        clear c2 c
        go_enter Try.func44, Try.ntmps44
        go_wp2_with fail
        refine (c_there _ _ _ b0 b1 k0 k1).mono ?_
        rintro e w' ⟨rfl, hb⟩
        have q2 : w'.cell? ⟨w.heap.size, 2, none⟩ = some (.int .i64 s) := by rw [hb.cell (p := ⟨w.heap.size, 2, none⟩) (by simp)]; simp
        have hB : Below w.heap.size w w' := ((Below.refl _ _).alloc (Nat.le_refl _) _).trans (hb.mono (by simp))
        clear hb
        go_wp2_with fail
        go_ret
        exact ⟨rfl, hB⟩
  · have d := decide_eq_false c
    rw [plItem_out (by omega)]
    clear c
    go_enter Try.func44, Try.ntmps44
    go_wp2_with (go_at_call 55; refine (c_there _ _ _ b0 b1 k0 k1).mono ?_; rintro e w' ⟨rfl, hb⟩)
    go_ret
    exact ⟨rfl, ((Below.refl _ _).alloc (Nat.le_refl _) _).trans (hb.mono (by simp))⟩
end Go.Proofs.Ytlaholgclcffaaa
