/- Contracts that other seats of ours hold too (taken by sub.py). -/
import Derived.Test.YtijifjiehldcaaaGreatRows
import Derived.Test.YtijifjiehldcaaaGreatFnvPlain
import Derived.Test.YtijifjiehldcaaaGreatPlPlain
import Derived.Test.YtijifjiehldcaaaGreatLib
import Derived.Test.YtijifjiehldcaaaGreatSl
import Derived.Laws.AppendOwnNone
import Derived.Deep.RegionWith
import Derived.Deep.RegionHeld3
namespace Go.Proofs.YtijifjiehldcaaaGreat
set_option linter.unusedSimpArgs false
open Go.RowKit
set_option linter.unusedVariables false
theorem hstep_eq {h c : Int} (h0 : 0 ≤ h) (h1 : h < 18446744073709551616) (c0 : 0 ≤ c) (c1 : c < 256) : IntKind.u64.wrap (bits .xor .u64 h c * 1099511628211) = fnvStep h c := by
  rw [u64_xor h c h0 h1 c0 (by omega), IntKind.wrap_u64]
  unfold fnvStep
  omega

theorem c_rHash (s : ByteArray) (w : World) (hs : s.size ≤ maxLen) :
    Calls Tryz.prog 92 #[.string s] w fun e w' => e = .returned (.int .u64 (fnvHash s.data.toList)) ∧ w = w' := by
  unfold maxLen at hs
  go_enter Tryz.func92, Tryz.ntmps92
  go_wp2
  go_loop [3, 4] (fun h i => ∃ k : Nat, k ≤ s.size ∧ i = .int .i64 k ∧ h = .int .u64 (fnvFrom 14695981039346656037 (s.data.toList.take k))) (fun _ i => s.size - (intOf i).toNat)
  case atStart => exact ⟨0, Nat.zero_le _, rfl, by simp [fnvFrom_nil]⟩
  case round =>
    obtain ⟨k, hk, rfl, rfl⟩ := hrel
    have hb := fnvFrom_bd 14695981039346656037 (s.data.toList.take k) (by decide) (by decide)
    by_cases hlt : k < s.size
    · have HS := Lib.hid (show fnvFrom 14695981039346656037 (s.data.toList.take (k + 1)) = fnvStep (fnvFrom 14695981039346656037 (s.data.toList.take k)) (s[k].toNat : Int) by rw [take_snoc s k hlt, fnvFrom_snoc])
      have hc0 : (0 : Int) ≤ (s[k].toNat : Int) := by omega
      have hc1 : (s[k].toNat : Int) < 256 := by have := s[k].toNat_lt; omega
      have Hm := Lib.hid (hstep_eq hb.1 hb.2 hc0 hc1)
      go_wp2
      go_round
      case rel => exact ⟨k + 1, by omega, by go_num, by rw [HS.out, Hm.out]⟩
      case measure => simp [intOf]; omega
    · go_wp2
      go_ret
      exact ⟨ret_int (by rw [List.take_of_length_le (by simp; omega)]; rfl), rfl⟩
theorem half_pow (h : Int) (k : Nat) : h / 2 ^ k / 2 = h / 2 ^ (k + 1) := by
  rw [Int.pow_succ, Int.ediv_ediv_of_nonneg (Int.pow_nonneg (by decide))]

theorem c_rTag (h : Int) (w : World) (h0 : 0 ≤ h) (h1 : h < 18446744073709551616) :
    Calls Tryz.prog 97 #[.int .u64 h] w fun e w' => e = .returned (.int .i64 (fnvTag h)) ∧ w = w' := by
  go_enter Tryz.func97, Tryz.ntmps97
  go_wp2
  go_loop [0, 3] (fun x i => ∃ k : Nat, k ≤ 56 ∧ i = .int .i64 k ∧ x = .int .u64 (h / 2 ^ k)) (fun _ i => 56 - (intOf i).toNat)
  case atStart => exact ⟨0, Nat.zero_le _, rfl, by simp⟩
  case round =>
    obtain ⟨k, hk, rfl, rfl⟩ := hrel
    have d0 : 0 ≤ h / 2 ^ k := Int.ediv_nonneg h0 (Int.pow_nonneg (by decide))
    have d1 : h / 2 ^ k < 18446744073709551616 := Int.lt_of_le_of_lt (Int.ediv_le_self _ h0) h1
    by_cases hlt : k < 56
    · have Hh := Lib.hid (half_pow h k)
      go_wp2
      go_round
      case rel => exact ⟨k + 1, by omega, by go_num, by rw [Hh.out]⟩
      case measure => simp [intOf]; omega
    · obtain rfl : k = 56 := by omega
      have e := Lib.hid (show h / 2 ^ 56 = h / 72057594037927936 from rfl)
      by_cases c : h / 2 ^ 56 = 0
      · have Hm := Lib.hid (show (1 : Int) = fnvTag h from by unfold fnvTag; rw [if_pos (by rw [← e.out, c]; decide)])
        have cb : (h / 2 ^ 56 == 0) = true := by rw [c]; rfl
        clear c
        go_wp2
        go_ret
        exact ⟨ret_int Hm.out, rfl⟩
      · have Hm := Lib.hid (show h / 2 ^ 56 = fnvTag h from by unfold fnvTag; rw [if_neg (by rw [← e.out]; omega), e.out])
        have cb : (h / 2 ^ 56 == 0) = false := beq_eq_false_iff_ne.2 c
        have d2 : h / 2 ^ 56 < 256 := by rw [e.out]; omega
        clear c
        go_wp2
        go_ret
        exact ⟨ret_int Hm.out, rfl⟩

theorem c_rSize (b : Int) (w : World) (b0 : -9223372036854775808 ≤ b) (b1 : b ≤ 9223372036854775807) :
    Calls Tryz.prog 136 #[.int .i64 b] w fun e w' => e = .returned (.int .i64 (fnvSize b)) ∧ w = w' := by
  by_cases c : 1 ≤ b ∧ b ≤ 12
  · obtain ⟨c1, c2⟩ := c
    have Hs := Lib.hid (fnvSize_in c1 c2)
    rw [Hs.out]
    obtain ⟨n, rfl⟩ := Int.eq_ofNat_of_zero_le (show 0 ≤ b by omega)
    go_enter Tryz.func136, Tryz.ntmps136
    go_wp2
    go_loop [3, 4] (fun x i => ∃ k : Nat, k ≤ n ∧ i = .int .i64 k ∧ x = .int .i64 (2 ^ k)) (fun _ i => n - (intOf i).toNat)
    case atStart => exact ⟨0, Nat.zero_le _, rfl, by simp⟩
    case round =>
      obtain ⟨k, hk, rfl, rfl⟩ := hrel
      have hp : (2 : Int) ^ k ≤ 4096 := by
        have := Nat.pow_le_pow_right (n := 2) (show 0 < 2 by decide) (show k ≤ 12 by omega)
        rw [show (2 : Int) ^ k = ((2 ^ k : Nat) : Int) from (Int.natCast_pow 2 _).symm]
        omega
      have hq : (0 : Int) ≤ 2 ^ k := Int.pow_nonneg (by decide)
      by_cases hlt : k < n
      · have Hh := Lib.hid (show (2 : Int) ^ (k + 1) = 2 * 2 ^ k by rw [Int.pow_succ, Int.mul_comm])
        go_wp2
        go_round
        case rel => exact ⟨k + 1, by omega, by go_num, by rw [Hh.out]⟩
        case measure => simp [intOf]; omega
      · go_wp2
        go_ret
        exact ⟨ret_int (by rw [show k = n by omega]), rfl⟩
  · rw [fnvSize_out (by omega)]
    by_cases c2 : b < 1
    · go_enter Tryz.func136, Tryz.ntmps136
      go_wp2
      go_ret
      exact ⟨rfl, rfl⟩
    · have c3 : 12 < b := by omega
      go_enter Tryz.func136, Tryz.ntmps136
      go_wp2
      go_ret
      exact ⟨rfl, rfl⟩

theorem c_rBucket (h b : Int) (w : World) (h0 : 0 ≤ h) (h1 : h < 18446744073709551616) (b0 : -9223372036854775808 ≤ b) (b1 : b ≤ 9223372036854775807) :
    Calls Tryz.prog 132 #[.int .u64 h, .int .i64 b] w fun e w' => e = .returned (.int .i64 (fnvBucket h b)) ∧ w = w' := by
  have hs := fnvSize_bd b
  by_cases c : 1 ≤ b ∧ b ≤ 12
  · have hp := fnvSize_pos c.1 c.2
    have Hm := Lib.hid (fnvBucket_in (h := h) c.1 c.2)
    have hb := fnvBucket_bd (h := h) c.1 c.2
    rw [Hm.out] at hb ⊢
    have hz : (fnvSize b == 0) = false := by simp; omega
    clear c
    go_enter Tryz.func132, Tryz.ntmps132
    go_wp2_with (go_at_call 136; refine (c_rSize _ _ b0 b1).mono ?_; rintro e w' ⟨rfl, rfl⟩)
    go_ret
    exact ⟨rfl, rfl⟩
  · have Hz := Lib.hid (fnvSize_out (b := b) (by omega))
    have hz : (fnvSize b == 0) = true := by rw [Hz.out]; rfl
    rw [fnvBucket_out (by omega)]
    clear c
    go_enter Tryz.func132, Tryz.ntmps132
    go_wp2_with (go_at_call 136; refine (c_rSize _ _ b0 b1).mono ?_; rintro e w' ⟨rfl, rfl⟩)
    go_ret
    exact ⟨rfl, rfl⟩

theorem c_rOther (k t b : Int) (w : World) (k0 : -9223372036854775808 ≤ k) (k1 : k ≤ 9223372036854775807) (t0 : -9223372036854775808 ≤ t) (t1 : t ≤ 9223372036854775807) (b0 : -9223372036854775808 ≤ b) (b1 : b ≤ 9223372036854775807) :
    Calls Tryz.prog 134 #[.int .i64 k, .int .i64 t, .int .i64 b] w fun e w' => e = .returned (.int .i64 (fnvOther k t b)) ∧ w = w' := by
  have hs := fnvSize_bd b
  by_cases c : 0 ≤ k ∧ k < fnvSize b ∧ 1 ≤ t ∧ t ≤ 255
  · have Hm := Lib.hid (xor_other c)
    have hp : 1 ≤ fnvSize b := by omega
    have hm := mod_size_bd (x := t * 1540483477) hp
    obtain ⟨c1, c2, c3, c4⟩ := c
    go_enter Tryz.func134, Tryz.ntmps134
    go_wp2_with (go_at_call 136; refine (c_rSize _ _ b0 b1).mono ?_; rintro e w' ⟨rfl, rfl⟩)
    go_ret
    exact ⟨ret_int Hm.out, rfl⟩
  · rw [fnvOther_out c]
    by_cases c1 : k < 0
    · clear c
      go_enter Tryz.func134, Tryz.ntmps134
      go_wp2_with (go_at_call 136; refine (c_rSize _ _ b0 b1).mono ?_; rintro e w' ⟨rfl, rfl⟩)
      go_ret
      exact ⟨rfl, rfl⟩
    · by_cases c2 : fnvSize b ≤ k
      · clear c
        go_enter Tryz.func134, Tryz.ntmps134
        go_wp2_with (go_at_call 136; refine (c_rSize _ _ b0 b1).mono ?_; rintro e w' ⟨rfl, rfl⟩)
        go_ret
        exact ⟨rfl, rfl⟩
      · by_cases c3 : t < 1
        · clear c
          go_enter Tryz.func134, Tryz.ntmps134
          go_wp2_with (go_at_call 136; refine (c_rSize _ _ b0 b1).mono ?_; rintro e w' ⟨rfl, rfl⟩)
          go_ret
          exact ⟨rfl, rfl⟩
        · have c4 : 255 < t := by omega
          clear c
          go_enter Tryz.func134, Tryz.ntmps134
          go_wp2_with (go_at_call 136; refine (c_rSize _ _ b0 b1).mono ?_; rintro e w' ⟨rfl, rfl⟩)
          go_ret
          exact ⟨rfl, rfl⟩

theorem c_rAs (x : Int) (w : World) (x0 : 0 ≤ x) (x1 : x < 18446744073709551616) :
    Calls Tryz.prog 131 #[.int .u64 x] w fun e w' => e = .returned (.tuple #[.int .i64 (plOld x), .int .i64 (plNow x)]) ∧ w = w' := by
  by_cases c1 : 1 ≤ x % 256 ∧ x % 256 ≤ 12
  · have Ho := Lib.hid (show plOld x = x % 256 from by unfold plOld; rw [if_pos c1])
    obtain ⟨c1a, c1b⟩ := c1
    by_cases c3 : x / 256 % 256 ≤ 12
    · by_cases c2 : x / 256 % 256 = x % 256 + 1
      · have Hn := Lib.hid (show plNow x = x / 256 % 256 from by unfold plNow; rw [if_pos ⟨by rw [Ho.out]; exact c2, c3⟩])
        have d2 : (x / 256 % 256 != x % 256 + 1) = false := by rw [c2]; simp
        rw [Ho.out, Hn.out]
        clear c2
        go_enter Tryz.func131, Tryz.ntmps131
        go_wp2
        go_ret2
        exact ⟨rfl, rfl⟩
      · have Hn := Lib.hid (show plNow x = 0 from by unfold plNow; rw [if_neg (by rw [Ho.out]; omega)])
        have d2 : (x / 256 % 256 != x % 256 + 1) = true := by rw [bne_iff_ne]; exact c2
        rw [Ho.out, Hn.out]
        clear c2
        go_enter Tryz.func131, Tryz.ntmps131
        go_wp2
        go_ret2
        exact ⟨rfl, rfl⟩
    · have Hn := Lib.hid (show plNow x = 0 from by unfold plNow; rw [if_neg (by omega)])
      have c3' : 12 < x / 256 % 256 := by omega
      rw [Ho.out, Hn.out]
      clear c3
      go_enter Tryz.func131, Tryz.ntmps131
      go_wp2
      go_ret2
      exact ⟨rfl, rfl⟩
  · have Ho := Lib.hid (show plOld x = 1 from by unfold plOld; rw [if_neg c1])
    have d0 : (x % 256 < 1) ∨ (¬ x % 256 < 1 ∧ 12 < x % 256) := by omega
    by_cases c3 : x / 256 % 256 ≤ 12
    · by_cases c2 : x / 256 % 256 = 2
      · have Hn := Lib.hid (show plNow x = x / 256 % 256 from by unfold plNow; rw [if_pos ⟨by rw [Ho.out]; exact c2, by omega⟩])
        have d2 : (x / 256 % 256 != 2) = false := by rw [c2]; rfl
        rw [Ho.out, Hn.out]
        clear c2 c1
        rcases d0 with d0 | ⟨d0, d1⟩
        all_goals
          go_enter Tryz.func131, Tryz.ntmps131
          go_wp2
          go_ret2
          exact ⟨rfl, rfl⟩
      · have Hn := Lib.hid (show plNow x = 0 from by unfold plNow; rw [if_neg (by rw [Ho.out]; omega)])
        have d2 : (x / 256 % 256 != 2) = true := by rw [bne_iff_ne]; exact c2
        rw [Ho.out, Hn.out]
        clear c2 c1
        rcases d0 with d0 | ⟨d0, d1⟩
        all_goals
          go_enter Tryz.func131, Tryz.ntmps131
          go_wp2
          go_ret2
          exact ⟨rfl, rfl⟩
    · have Hn := Lib.hid (show plNow x = 0 from by unfold plNow; rw [if_neg (by omega)])
      have c3' : 12 < x / 256 % 256 := by omega
      rw [Ho.out, Hn.out]
      clear c3 c1
      rcases d0 with d0 | ⟨d0, d1⟩
      all_goals
        go_enter Tryz.func131, Tryz.ntmps131
        go_wp2
        go_ret2
        exact ⟨rfl, rfl⟩

theorem c_rthere (b k : Int) (w : World) (b0 : -9223372036854775808 ≤ b) (b1 : b ≤ 9223372036854775807) (k0 : -9223372036854775808 ≤ k) (k1 : k ≤ 9223372036854775807) :
    Calls Tryz.prog 135 #[.agg #[.int .i64 b, .int .i64 k]] w fun e w' => e = .returned (.bool (decide (0 ≤ k ∧ k < fnvSize b))) ∧ Below w.heap.size w w' := by
  have hs := fnvSize_bd b
  by_cases c1 : 0 ≤ k
  · have d1 : decide (0 ≤ k) = true := by simpa using c1
    by_cases c2 : k < fnvSize b
    · have d2 : decide (k < fnvSize b) = true := by simpa using c2
      rw [decide_eq_true (⟨c1, c2⟩ : 0 ≤ k ∧ k < fnvSize b)]
      go_enter Tryz.func135, Tryz.ntmps135
      go_wp2
      go_quiet ((go_at_call 136; exact quietS (c_rSize _ _ b0 b1)))
      go_wp2
      go_ret
      exact ⟨rfl, below_drewN ((Below.refl _ _).alloc (Nat.le_refl _) _) _⟩
    · have d2 : decide (k < fnvSize b) = false := by simpa using c2
      rw [decide_eq_false (show ¬ (0 ≤ k ∧ k < fnvSize b) by omega)]
      go_enter Tryz.func135, Tryz.ntmps135
      go_wp2
      go_quiet ((go_at_call 136; exact quietS (c_rSize _ _ b0 b1)))
      go_wp2
      go_ret
      exact ⟨rfl, below_drewN ((Below.refl _ _).alloc (Nat.le_refl _) _) _⟩
  · have d1 : decide (0 ≤ k) = false := by simpa using c1
    rw [decide_eq_false (show ¬ (0 ≤ k ∧ k < fnvSize b) by omega)]
    go_enter Tryz.func135, Tryz.ntmps135
    go_wp2
    go_quiet ((go_at_call 136; exact quietS (c_rSize _ _ b0 b1)))
    go_wp2
    go_ret
    exact ⟨rfl, below_drewN ((Below.refl _ _).alloc (Nat.le_refl _) _) _⟩

theorem c_rTags (b k : Int) (w : World) (b0 : -9223372036854775808 ≤ b) (b1 : b ≤ 9223372036854775807) (k0 : -9223372036854775808 ≤ k) (k1 : k ≤ 9223372036854775807) :
    Calls Tryz.prog 95 #[.agg #[.int .i64 b, .int .i64 k]] w fun e w' => e = .returned (.int .u64 (plTags b k)) ∧ Below w.heap.size w w' := by
  have hs := fnvSize_bd b
  by_cases c : 0 ≤ k ∧ k < fnvSize b
  · have Ht := Lib.hid (plTags_in c)
    have d := decide_eq_true c
    rw [Ht.out]
    obtain ⟨ca, cb⟩ := c
    go_enter Tryz.func95, Tryz.ntmps95
    go_wp2_with fail
    refine (c_rthere _ _ _ b0 b1 k0 k1).mono ?_
    rintro e w' ⟨rfl, hb⟩
    have q0 : w'.cell? ⟨w.heap.size, 0, none⟩ = some (.int .i64 b) := by rw [hb.cell (p := ⟨w.heap.size, 0, none⟩) (by simp)]; simp
    have q1 : w'.cell? ⟨w.heap.size, 1, none⟩ = some (.int .i64 k) := by rw [hb.cell (p := ⟨w.heap.size, 1, none⟩) (by simp)]; simp
    go_wp2_with fail
    go_quiet ((go_at_call 136; exact quietS (c_rSize _ _ b0 b1)))
    go_wp2
    go_ret
    exact ⟨ret_int (by omega), below_drewN (((Below.refl _ _).alloc (Nat.le_refl _) _).trans (hb.mono (by simp))) _⟩
  · have d := decide_eq_false c
    rw [plTags_out c]
    clear c
    go_enter Tryz.func95, Tryz.ntmps95
    go_wp2_with (go_at_call 135; refine (c_rthere _ _ _ b0 b1 k0 k1).mono ?_; rintro e w' ⟨rfl, hb⟩)
    go_ret
    exact ⟨rfl, ((Below.refl _ _).alloc (Nat.le_refl _) _).trans (hb.mono (by simp))⟩

theorem c_rItem (b k s : Int) (w : World) (b0 : -9223372036854775808 ≤ b) (b1 : b ≤ 9223372036854775807) (k0 : -9223372036854775808 ≤ k) (k1 : k ≤ 9223372036854775807) (s0 : -9223372036854775808 ≤ s) (s1 : s ≤ 9223372036854775807) :
    Calls Tryz.prog 98 #[.agg #[.int .i64 b, .int .i64 k, .int .i64 s]] w fun e w' => e = .returned (.int .u64 (plItem b k s)) ∧ Below w.heap.size w w' := by
  have hs := fnvSize_bd b
  by_cases c : 0 ≤ k ∧ k < fnvSize b
  · have d := decide_eq_true c
    by_cases c2 : 0 ≤ s ∧ s ≤ 3
    · have Ht := Lib.hid (plItem_in c c2)
      have hT : 0 ≤ plTags b k ∧ plTags b k ≤ 1000000 := by rw [plTags_in c]; omega
      obtain ⟨ca, cb⟩ := c2
      have d1 : decide (s < 0) = false := by simp; omega
      have d2 : decide (3 < s) = false := by simp; omega
      rw [Ht.out]
      clear c
      go_enter Tryz.func98, Tryz.ntmps98
      go_wp2_with fail
      refine (c_rthere _ _ _ b0 b1 k0 k1).mono ?_
      rintro e w' ⟨rfl, hb⟩
      have q0 : w'.cell? ⟨w.heap.size, 0, none⟩ = some (.int .i64 b) := by rw [hb.cell (p := ⟨w.heap.size, 0, none⟩) (by simp)]; simp
      have q1 : w'.cell? ⟨w.heap.size, 1, none⟩ = some (.int .i64 k) := by rw [hb.cell (p := ⟨w.heap.size, 1, none⟩) (by simp)]; simp
      have q2 : w'.cell? ⟨w.heap.size, 2, none⟩ = some (.int .i64 s) := by rw [hb.cell (p := ⟨w.heap.size, 2, none⟩) (by simp)]; simp
      have hB : Below w.heap.size w w' := ((Below.refl _ _).alloc (Nat.le_refl _) _).trans (hb.mono (by simp))
      have hz : w.heap.size < w'.heap.size := Nat.lt_of_lt_of_le (by simp) hb.size
      clear hb
      go_wp2_with fail
      refine wp_region_via (by kernel_rfl) (by kernel_rfl) ?_
      repeat (go_big_quiet_step ((go_at_call 95; exact viaB (c_rTags _ _ _ b0 b1 k0 k1))))
      refine wpQuiet_nil ?_
      rintro _ ⟨e, rfl⟩
      go_wp2
      go_ret
      exact ⟨ret_int (by omega), hB.trans ((via_below _ e).mono hB.size)⟩
    · rw [plItem_out (by omega)]
      by_cases c3 : s < 0
      · have d1 : decide (s < 0) = true := by simp; omega
        clear c2 c
        go_enter Tryz.func98, Tryz.ntmps98
        go_wp2_with fail
        refine (c_rthere _ _ _ b0 b1 k0 k1).mono ?_
        rintro e w' ⟨rfl, hb⟩
        have q2 : w'.cell? ⟨w.heap.size, 2, none⟩ = some (.int .i64 s) := by rw [hb.cell (p := ⟨w.heap.size, 2, none⟩) (by simp)]; simp
        have hB : Below w.heap.size w w' := ((Below.refl _ _).alloc (Nat.le_refl _) _).trans (hb.mono (by simp))
        clear hb
        go_wp2_with fail
        go_ret
        exact ⟨rfl, hB⟩
      · have d1 : decide (s < 0) = false := by simp; omega
        have d2 : decide (3 < s) = true := by simp; omega
        clear c2 c
        go_enter Tryz.func98, Tryz.ntmps98
        go_wp2_with fail
        refine (c_rthere _ _ _ b0 b1 k0 k1).mono ?_
        rintro e w' ⟨rfl, hb⟩
        have q2 : w'.cell? ⟨w.heap.size, 2, none⟩ = some (.int .i64 s) := by rw [hb.cell (p := ⟨w.heap.size, 2, none⟩) (by simp)]; simp
        have hB : Below w.heap.size w w' := ((Below.refl _ _).alloc (Nat.le_refl _) _).trans (hb.mono (by simp))
        clear hb
        go_wp2_with fail
        go_ret
        exact ⟨rfl, hB⟩
  · have d := decide_eq_false c
    rw [plItem_out (by omega)]
    clear c
    go_enter Tryz.func98, Tryz.ntmps98
    go_wp2_with (go_at_call 135; refine (c_rthere _ _ _ b0 b1 k0 k1).mono ?_; rintro e w' ⟨rfl, hb⟩)
    go_ret
    exact ⟨rfl, ((Below.refl _ _).alloc (Nat.le_refl _) _).trans (hb.mono (by simp))⟩

def plc (p : Int × Int) : List Value := [.int .i64 p.1, .int .i64 p.2]
theorem plc_len (p : Int × Int) : (plc p).length = 2 := rfl
theorem plc_cells {l : List (Int × Int)} {w : World} {b o : Nat} (h : ∀ j u, (rowOf plc l)[j]? = some u → w.cell? ⟨b, o + j, none⟩ = some u) (i : Nat) (hi : i < l.length) :
    w.cell? ⟨b, o + i * 2, none⟩ = some (.int .i64 l[i].1) ∧ w.cell? ⟨b, o + i * 2 + 1, none⟩ = some (.int .i64 l[i].2) :=
  ⟨h _ _ (rowOf_get plc_len l i 0 hi (by omega)), h _ _ (rowOf_get plc_len l i 1 hi (by omega))⟩

theorem no_more {l : List (Int × Int)} {p q : Int × Int} {k : Nat} {hk : k < l.length} (hq : q = l[k]) (hno : ∀ j, (hj : j < l.length) → j < k → l[j] ≠ p) (h : ¬ q = p) : ∀ j, (hj : j < l.length) → j < k + 1 → l[j] ≠ p := by
  intro j hj hjk
  rcases Nat.lt_or_ge j k with h' | h'
  · exact hno j hj h'
  · obtain rfl : j = k := by omega
    rw [← hq]; exact h
/-- Places, each once. -/
def plAdd (out : List (Int × Int)) (p : Int × Int) : List (Int × Int) := if p ∈ out then out else out ++ [p]
def plOnce (l : List (Int × Int)) : List (Int × Int) := l.foldl plAdd []
theorem plOnce_snoc (l : List (Int × Int)) (p : Int × Int) : plOnce (l ++ [p]) = plAdd (plOnce l) p := by simp [plOnce]
theorem plOnce_len (l : List (Int × Int)) : (plOnce l).length ≤ l.length := by
  suffices ∀ out, (l.foldl plAdd out).length ≤ out.length + l.length by simpa [plOnce] using this []
  induction l with
  | nil => intro out; simp
  | cons a l ih =>
    intro out
    have := ih (plAdd out a)
    have h2 : (plAdd out a).length ≤ out.length + 1 := by unfold plAdd; split <;> simp
    simp only [List.foldl_cons, List.length_cons]
    omega
/-- A key's places in one table. -/
def plPair (h b : Int) : List (Int × Int) := if 1 ≤ b ∧ b ≤ 12 then [(b, fnvBucket h b), (b, fnvOther (fnvBucket h b) (fnvTag h) b)] else []
theorem plPair_in {h b : Int} (h1 : 1 ≤ b) (h2 : b ≤ 12) : plPair h b = [(b, fnvBucket h b), (b, fnvOther (fnvBucket h b) (fnvTag h) b)] := by unfold plPair; rw [if_pos ⟨h1, h2⟩]
theorem plPair_out {h b : Int} (h1 : b < 1 ∨ 12 < b) : plPair h b = [] := by unfold plPair; rw [if_neg (by omega)]
def plPlaces (h w : Int) : List (Int × Int) := plOnce (plPair h (plOld w) ++ plPair h (plNow w))
theorem infoPl : (Tryz.prog.info? 136).map (fun i => (i.zero, i.size, i.bytes)) = some (some (.agg #[.int .i64 0, .int .i64 0]), 2, 16) := by kernel_rfl

theorem plc_one (l : List (Int × Int)) : ∀ u ∈ rowOf plc l, u.oneCell' = true := by
  intro u hu
  obtain ⟨p, _, hp⟩ := List.mem_flatMap.1 hu
  simp [plc] at hp
  rcases hp with rfl | rfl <;> rfl
end Go.Proofs.YtijifjiehldcaaaGreat
