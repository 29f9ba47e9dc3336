/- The law PlacesApart. -/
import Derived.Test.YtlaholgclcffaaaPlMay
import Derived.Deep.RegionHeld3
import Derived.BigRegion
import Derived.Deep.DeepCutAuto
namespace Go.Proofs.Ytlaholgclcffaaa
open Go.RowKit
set_option linter.unusedVariables false

theorem c_words (b k s : Int) (w : World) (b0 : -9223372036854775808 ≤ b) (b1 : b ≤ 9223372036854775807) (k0 : -9223372036854775808 ≤ k) (k1 : k ≤ 9223372036854775807) (s0 : -9223372036854775808 ≤ s) (s1 : s ≤ 9223372036854775807) :
    Calls Try.prog 50 #[.agg #[.int .i64 b, .int .i64 k, .int .i64 s]] w fun e w' => e = .returned (.agg #[.int .u64 (plTags b k), .int .u64 (plItem b k s)]) ∧ Below w.heap.size w w' := by
  go_enter Try.func50, Try.ntmps50
  go_wp2_with fail
  go_region_held3 (fun w' => w'.cell? ⟨w.heap.size, 0, none⟩ = some (.int .i64 b) ∧ w'.cell? ⟨w.heap.size, 1, none⟩ = some (.int .i64 k) ∧ w'.cell? ⟨w.heap.size, 2, none⟩ = some (.int .i64 s)) (simp [via_via, go_sem])
    (first | (go_at_call 42; refine (viaC (c_Tags _ _ _ b0 b1 k0 k1)).mono ?_; rintro e w' ⟨rfl, m, rfl⟩) | (go_at_call 44; refine (viaC (c_Item _ _ _ _ b0 b1 k0 k1 s0 s1)).mono ?_; rintro e w' ⟨rfl, m2, rfl⟩))
  go_wp2_with fail
  refine bodyPost_ret (v := .agg #[.int .u64 (plTags b k), .int .u64 (plItem b k s)]) ?_ rfl ⟨rfl, ?_⟩
  · simp [results, Try.results50, go_sem, via_via]
  · have h := (((Below.refl w.heap.size w).alloc (Nat.le_refl _) (.cells #[.int .i64 b, .int .i64 k, .int .i64 s] 43)).alloc (by simp) (.cells #[.int .u64 0, .int .u64 0] 58)).drew
    exact below_setCell (below_setCell (below_via (below_via h m) m2) (by omega) _ _) (by omega) _ _

theorem size_mono {a b : Int} (a1 : 1 ≤ a) (b2 : b ≤ 12) (h : a < b) : 2 * fnvSize a ≤ fnvSize b := by
  obtain ⟨k, rfl⟩ : ∃ k : Nat, b = a + 1 + k := ⟨(b - a - 1).toNat, by omega⟩
  induction k with
  | zero => rw [show a + 1 + ((0 : Nat) : Int) = a + 1 by omega, size_succ' a1 (by omega)]; omega
  | succ k ih =>
    have h1 := ih (by omega) (by omega)
    have h2 := size_succ' (b := a + 1 + k) (by omega) (by omega)
    have h3 := fnvSize_bd (a + 1 + k)
    rw [show a + 1 + ((k + 1 : Nat) : Int) = a + 1 + k + 1 by omega]
    omega
theorem place_inj {a k b m : Int} (a1 : 1 ≤ a) (a2 : a ≤ 12) (b1 : 1 ≤ b) (b2 : b ≤ 12) (k1 : 0 ≤ k ∧ k < fnvSize a) (m1 : 0 ≤ m ∧ m < fnvSize b) (h : fnvSize a + k = fnvSize b + m) : a = b ∧ k = m := by
  rcases Int.lt_trichotomy a b with c | c | c
  · have := size_mono a1 b2 c; omega
  · subst c; omega
  · have := size_mono b1 a2 c; omega

set_option maxRecDepth 100000 in
set_option maxHeartbeats 4000000 in
theorem w_PlacesApart (z0 z1 z2 z3 z4 z5 x y : Int) (w : World) (a0 : 0 ≤ z0) (a1 : z0 ≤ 65535) (b0 : 0 ≤ z1) (b1 : z1 ≤ 65535) (c0 : 0 ≤ z2) (c1 : z2 ≤ 65535) (d0 : 0 ≤ z3) (d1 : z3 ≤ 65535) (e0 : 0 ≤ z4) (e1 : z4 ≤ 65535) (f0 : 0 ≤ z5) (f1 : z5 ≤ 65535) (x0 : 0 ≤ x) (x1 : x ≤ 4294967295) (y0 : 0 ≤ y) (y1 : y ≤ 4294967295) :
    Calls Try.prog 13 #[.agg #[.int .u16 z0, .int .u16 z1, .int .u16 z2, .int .u16 z3, .int .u16 z4, .int .u16 z5], .int .u32 x, .int .u32 y] w fun e w' => e = .returned (.bool true) ∧ Below w.heap.size w w' := by
  have vv := via_via
  obtain ⟨A, hA, A1, A2⟩ : ∃ n : Int, 1 + z0 % 12 = n ∧ 1 ≤ n ∧ n ≤ 12 := ⟨_, rfl, by omega, by omega⟩
  obtain ⟨B, hB, B1, B2⟩ : ∃ n : Int, 1 + z3 % 12 = n ∧ 1 ≤ n ∧ n ≤ 12 := ⟨_, rfl, by omega, by omega⟩
  have pA := two_pow_le (n := A.toNat) (by omega) (by omega)
  have pB := two_pow_le (n := B.toNat) (by omega) (by omega)
  have sA : fnvSize A = 2 ^ A.toNat := fnvSize_in A1 A2
  have sB : fnvSize B = 2 ^ B.toNat := fnvSize_in B1 B2
  obtain ⟨p, hp, p0, p1⟩ : ∃ p : Int, z1 % 2 ^ A.toNat = p ∧ 0 ≤ p ∧ p < fnvSize A := ⟨_, rfl, Int.emod_nonneg z1 (by omega), by rw [sA]; exact Int.emod_lt_of_pos z1 (by omega)⟩
  obtain ⟨q, hq, q0, q1⟩ : ∃ q : Int, z4 % 2 ^ B.toNat = q ∧ 0 ≤ q ∧ q < fnvSize B := ⟨_, rfl, Int.emod_nonneg z4 (by omega), by rw [sB]; exact Int.emod_lt_of_pos z4 (by omega)⟩
  obtain ⟨s, hs, s0, s1⟩ : ∃ s : Int, z2 % 4 = s ∧ 0 ≤ s ∧ s ≤ 3 := ⟨_, rfl, by omega, by omega⟩
  obtain ⟨r, hr, r0, r1⟩ : ∃ r : Int, z5 % 4 = r ∧ 0 ≤ r ∧ r ≤ 3 := ⟨_, rfl, by omega, by omega⟩
  have zA := fnvSize_bd A
  have zB := fnvSize_bd B
  have t1 := plTags_in (b := A) (k := p) ⟨p0, p1⟩
  have t2 := plTags_in (b := B) (k := q) ⟨q0, q1⟩
  have i1 := plItem_in (b := A) (k := p) (s := s) ⟨p0, p1⟩ ⟨s0, s1⟩
  have i2 := plItem_in (b := B) (k := q) (s := r) ⟨q0, q1⟩ ⟨r0, r1⟩
  have ver : 64 ≤ plVersion A p ∧ plVersion A p < 128 := by
    rw [plVersion_in ⟨p0, p1⟩]; unfold fnvStripe; rw [if_pos ⟨p0, p1⟩]; omega
  have rx : plRef (x + 1) = 4294967297 + x := by unfold plRef; rw [if_neg (by omega)]; omega
  have ry : plRef (y + 1) = 4294967297 + y := by unfold plRef; rw [if_neg (by omega)]; omega
  obtain ⟨Ta, hTa⟩ : ∃ T, plTags A p = T := ⟨_, rfl⟩
  obtain ⟨Tb, hTb⟩ : ∃ T, plTags B q = T := ⟨_, rfl⟩
  obtain ⟨Ia, hIa⟩ : ∃ T, plItem A p s = T := ⟨_, rfl⟩
  obtain ⟨Ib, hIb⟩ : ∃ T, plItem B q r = T := ⟨_, rfl⟩
  obtain ⟨V, hV⟩ : ∃ T, plVersion A p = T := ⟨_, rfl⟩
  rw [hV] at ver
  rw [hTa] at t1 i1
  rw [hTb] at t2 i2
  rw [hIa] at i1
  rw [hIb] at i2
  have N1 : (Ta == Ia) = false := by simp; omega
  have N2 : (Ta == Ib) = false := by simp; omega
  have N3 : (Tb == Ia) = false := by simp; omega
  have L1 : 4096 ≤ Ta := by omega
  have L2 : Ia < 4294967296 := by omega
  have hC : (A = B ∧ p = q ∧ s = r ∧ (Ta == Tb) = true ∧ (Ia == Ib) = true) ∨ (A = B ∧ p = q ∧ ¬ s = r ∧ (Ta == Tb) = true ∧ (Ia == Ib) = false) ∨ (A = B ∧ ¬ p = q ∧ (Ta == Tb) = false ∧ (Ia == Ib) = false) ∨ (¬ A = B ∧ (Ta == Tb) = false ∧ (Ia == Ib) = false) := by
    simp only [beq_iff_eq, beq_eq_false_iff_ne]
    by_cases h : A = B
    · subst h; omega
    · right; right; right
      have hi : ¬ fnvSize A + p = fnvSize B + q := fun e => h (place_inj A1 A2 B1 B2 ⟨p0, p1⟩ ⟨q0, q1⟩ e).1
      refine ⟨h, ?_, ?_⟩ <;> omega
  have hD : ((x == y) = true ∧ (4294967297 + x == 4294967297 + y) = true) ∨ ((x == y) = false ∧ (4294967297 + x == 4294967297 + y) = false) := by
    simp only [beq_iff_eq, beq_eq_false_iff_ne]; omega
  have mA : z1 % 2 ^ A.toNat = p := hp
  clear t1 t2 i1 i2 sA sB p1 q1 zA zB mA
  rcases hC with ⟨g1, g2, g3, g4, g5⟩ | ⟨g1, g2, g3, g4, g5⟩ | ⟨g1, g3, g4, g5⟩ | ⟨g3, g4, g5⟩
  · skip
    have Hg1 := Lib.hid g1
    have Hg2 := Lib.hid g2
    have Hg3 := Lib.hid g3
    clear g1 g2 g3
    rcases hD with ⟨k1, k2⟩ | ⟨k1, k2⟩
    all_goals
      go_enter Try.func13, Try.ntmps13
      go_wp2_with fail
      go_region
      go_wp2_with fail
      go_region
      go_wp2_with fail
      refine (c_words _ _ _ _ (by omega) (by omega) (by omega) (by omega) (by omega) (by omega)).mono ?_
      rw [hTa, hIa]
      rintro e w1 ⟨rfl, hB1⟩
      have u0 : w1.cell? ⟨w.heap.size + 1, 0, none⟩ = some (.int .i64 A) := (hB1.cell (p := ⟨w.heap.size + 1, 0, none⟩) (by simp)).trans (by simp [go_sem])
      have u1 : w1.cell? ⟨w.heap.size + 1, 1, none⟩ = some (.int .i64 p) := (hB1.cell (p := ⟨w.heap.size + 1, 1, none⟩) (by simp)).trans (by simp [go_sem])
      have u2 : w1.cell? ⟨w.heap.size + 1, 2, none⟩ = some (.int .i64 s) := (hB1.cell (p := ⟨w.heap.size + 1, 2, none⟩) (by simp)).trans (by simp [go_sem])
      have v0 : w1.cell? ⟨w.heap.size + 1 + 1, 0, none⟩ = some (.int .i64 B) := (hB1.cell (p := ⟨w.heap.size + 1 + 1, 0, none⟩) (by simp)).trans (by simp [go_sem])
      have v1 : w1.cell? ⟨w.heap.size + 1 + 1, 1, none⟩ = some (.int .i64 q) := (hB1.cell (p := ⟨w.heap.size + 1 + 1, 1, none⟩) (by simp)).trans (by simp [go_sem])
      have v2 : w1.cell? ⟨w.heap.size + 1 + 1, 2, none⟩ = some (.int .i64 r) := (hB1.cell (p := ⟨w.heap.size + 1 + 1, 2, none⟩) (by simp)).trans (by simp [go_sem])
      have y1 : w.heap.size + 1 + 1 < w1.heap.size := Nat.lt_of_lt_of_le (by simp) hB1.size
      have y2 : w.heap.size + 1 < w1.heap.size := by omega
      have C1 : Below w.heap.size w w1 := (((((Below.refl w.heap.size w).alloc (Nat.le_refl _) _).alloc (by simp) _).alloc (by simp; omega) _).drew.drew).trans (hB1.mono (by simp; omega))
      clear hB1
      go_wp2_with fail
      refine (c_words _ _ _ _ (by omega) (by omega) (by omega) (by omega) (by omega) (by omega)).mono ?_
      rw [hTb, hIb]
      rintro e w2 ⟨rfl, hB2⟩
      have x0' := (keep1 (j := 0) hB2 y2).trans u0
      have x1' := (keep1 (j := 1) hB2 y2).trans u1
      have x2' := (keep1 (j := 2) hB2 y2).trans u2
      have x3' := (keep1 (j := 0) hB2 y1).trans v0
      have x4' := (keep1 (j := 1) hB2 y1).trans v1
      have x5' := (keep1 (j := 2) hB2 y1).trans v2
      have x6' : w2.cell? ⟨w1.heap.size, 0, none⟩ = some (.int .u64 Ta) := by rw [hB2.cell (p := ⟨w1.heap.size, 0, none⟩) (by simp)]; simp
      have x7' : w2.cell? ⟨w1.heap.size, 1, none⟩ = some (.int .u64 Ia) := by rw [hB2.cell (p := ⟨w1.heap.size, 1, none⟩) (by simp)]; simp
      have y3 : w1.heap.size < w2.heap.size := Nat.lt_of_lt_of_le (by simp) hB2.size
      have y4 : w1.heap.size ≤ w2.heap.size := by omega
      have y5 : w.heap.size + 1 + 1 < w2.heap.size := by omega
      have y6 : w.heap.size + 1 < w2.heap.size := by omega
      have y7 : w.heap.size + 1 + 1 ≤ w2.heap.size := by omega
      have y8 : w.heap.size + 1 ≤ w2.heap.size := by omega
      have y9 : w.heap.size < w2.heap.size := by omega
      have C2 : Below w.heap.size w w2 := (below_alloc C1 _).trans (hB2.mono (Nat.le_trans C1.size (by simp)))
      clear hB2 u0 u1 u2 v0 v1 v2 y1 y2 C1
      go_wp2_with fail
      have g1 := Hg1.out
      have g2 := Hg2.out
      have g3 := Hg3.out
      refine wp_region_via (by kernel_rfl) (by kernel_rfl) ?_
      repeat (go_big_quiet_step (fail))
      refine wpQuiet_nil ?_
      rintro w3 ⟨e, he⟩
      have hb3 := via_below _ e
      rw [← he] at hb3
      have m0 := (keep1 (j := 0) hb3 y6).trans x0'
      have m1 := (keep1 (j := 1) hb3 y6).trans x1'
      have m6 := (keep1 (j := 0) hb3 y3).trans x6'
      have m7 := (keep1 (j := 1) hb3 y3).trans x7'
      have l1 : w1.heap.size < w3.heap.size := Nat.lt_of_lt_of_le (by simp; omega) hb3.size
      have C3 : Below w.heap.size w w3 := (below_alloc C2 _).trans (hb3.mono (Nat.le_trans C2.size (by simp)))
      clear g1 g2 g3
      clear hb3 he e C2 x0' x1' x2' x3' x4' x5' x6' x7' y3 y4 y5 y6 y7 y8 y9
      go_wp2_with (first | (go_at_call 46; refine (c_Ref _ _ (by omega) (by omega)).mono ?_; rintro e w' ⟨rfl, rfl⟩))
      refine (c_Version A p _ (by omega) (by omega) (by omega) (by omega)).mono ?_
      rw [hV]
      rintro e w4 ⟨rfl, hB4⟩
      have o6 := (hB4.cell (p := ⟨w1.heap.size, 0, none⟩) l1).trans m6
      have o7 := (hB4.cell (p := ⟨w1.heap.size, 1, none⟩) l1).trans m7
      have C4 : Below w.heap.size w w4 := C3.trans (hB4.mono C3.size)
      clear hB4 m0 m1 m6 m7 l1 C3
      go_wp2_with (first | (go_at_call 33; refine (viaC (c_lives08 _)).mono ?_; rintro e w' ⟨rfl, m, rfl⟩))
      go_ret
      exact ⟨rfl, below_via C4 _⟩
  · skip
    have Hg1 := Lib.hid g1
    have Hg2 := Lib.hid g2
    have Hg3 := Lib.hid g3
    clear g1 g2 g3
    rcases hD with ⟨k1, k2⟩ | ⟨k1, k2⟩
    all_goals
      go_enter Try.func13, Try.ntmps13
      go_wp2_with fail
      go_region
      go_wp2_with fail
      go_region
      go_wp2_with fail
      refine (c_words _ _ _ _ (by omega) (by omega) (by omega) (by omega) (by omega) (by omega)).mono ?_
      rw [hTa, hIa]
      rintro e w1 ⟨rfl, hB1⟩
      have u0 : w1.cell? ⟨w.heap.size + 1, 0, none⟩ = some (.int .i64 A) := (hB1.cell (p := ⟨w.heap.size + 1, 0, none⟩) (by simp)).trans (by simp [go_sem])
      have u1 : w1.cell? ⟨w.heap.size + 1, 1, none⟩ = some (.int .i64 p) := (hB1.cell (p := ⟨w.heap.size + 1, 1, none⟩) (by simp)).trans (by simp [go_sem])
      have u2 : w1.cell? ⟨w.heap.size + 1, 2, none⟩ = some (.int .i64 s) := (hB1.cell (p := ⟨w.heap.size + 1, 2, none⟩) (by simp)).trans (by simp [go_sem])
      have v0 : w1.cell? ⟨w.heap.size + 1 + 1, 0, none⟩ = some (.int .i64 B) := (hB1.cell (p := ⟨w.heap.size + 1 + 1, 0, none⟩) (by simp)).trans (by simp [go_sem])
      have v1 : w1.cell? ⟨w.heap.size + 1 + 1, 1, none⟩ = some (.int .i64 q) := (hB1.cell (p := ⟨w.heap.size + 1 + 1, 1, none⟩) (by simp)).trans (by simp [go_sem])
      have v2 : w1.cell? ⟨w.heap.size + 1 + 1, 2, none⟩ = some (.int .i64 r) := (hB1.cell (p := ⟨w.heap.size + 1 + 1, 2, none⟩) (by simp)).trans (by simp [go_sem])
      have y1 : w.heap.size + 1 + 1 < w1.heap.size := Nat.lt_of_lt_of_le (by simp) hB1.size
      have y2 : w.heap.size + 1 < w1.heap.size := by omega
      have C1 : Below w.heap.size w w1 := (((((Below.refl w.heap.size w).alloc (Nat.le_refl _) _).alloc (by simp) _).alloc (by simp; omega) _).drew.drew).trans (hB1.mono (by simp; omega))
      clear hB1
      go_wp2_with fail
      refine (c_words _ _ _ _ (by omega) (by omega) (by omega) (by omega) (by omega) (by omega)).mono ?_
      rw [hTb, hIb]
      rintro e w2 ⟨rfl, hB2⟩
      have x0' := (keep1 (j := 0) hB2 y2).trans u0
      have x1' := (keep1 (j := 1) hB2 y2).trans u1
      have x2' := (keep1 (j := 2) hB2 y2).trans u2
      have x3' := (keep1 (j := 0) hB2 y1).trans v0
      have x4' := (keep1 (j := 1) hB2 y1).trans v1
      have x5' := (keep1 (j := 2) hB2 y1).trans v2
      have x6' : w2.cell? ⟨w1.heap.size, 0, none⟩ = some (.int .u64 Ta) := by rw [hB2.cell (p := ⟨w1.heap.size, 0, none⟩) (by simp)]; simp
      have x7' : w2.cell? ⟨w1.heap.size, 1, none⟩ = some (.int .u64 Ia) := by rw [hB2.cell (p := ⟨w1.heap.size, 1, none⟩) (by simp)]; simp
      have y3 : w1.heap.size < w2.heap.size := Nat.lt_of_lt_of_le (by simp) hB2.size
      have y4 : w1.heap.size ≤ w2.heap.size := by omega
      have y5 : w.heap.size + 1 + 1 < w2.heap.size := by omega
      have y6 : w.heap.size + 1 < w2.heap.size := by omega
      have y7 : w.heap.size + 1 + 1 ≤ w2.heap.size := by omega
      have y8 : w.heap.size + 1 ≤ w2.heap.size := by omega
      have y9 : w.heap.size < w2.heap.size := by omega
      have C2 : Below w.heap.size w w2 := (below_alloc C1 _).trans (hB2.mono (Nat.le_trans C1.size (by simp)))
      clear hB2 u0 u1 u2 v0 v1 v2 y1 y2 C1
      go_wp2_with fail
      have g1 := Hg1.out
      have g2 := Hg2.out
      have g3 := Hg3.out
      refine wp_region_via (by kernel_rfl) (by kernel_rfl) ?_
      repeat (go_big_quiet_step (fail))
      refine wpQuiet_nil ?_
      rintro w3 ⟨e, he⟩
      have hb3 := via_below _ e
      rw [← he] at hb3
      have m0 := (keep1 (j := 0) hb3 y6).trans x0'
      have m1 := (keep1 (j := 1) hb3 y6).trans x1'
      have m6 := (keep1 (j := 0) hb3 y3).trans x6'
      have m7 := (keep1 (j := 1) hb3 y3).trans x7'
      have l1 : w1.heap.size < w3.heap.size := Nat.lt_of_lt_of_le (by simp; omega) hb3.size
      have C3 : Below w.heap.size w w3 := (below_alloc C2 _).trans (hb3.mono (Nat.le_trans C2.size (by simp)))
      clear g1 g2 g3
      clear hb3 he e C2 x0' x1' x2' x3' x4' x5' x6' x7' y3 y4 y5 y6 y7 y8 y9
      go_wp2_with (first | (go_at_call 46; refine (c_Ref _ _ (by omega) (by omega)).mono ?_; rintro e w' ⟨rfl, rfl⟩))
      refine (c_Version A p _ (by omega) (by omega) (by omega) (by omega)).mono ?_
      rw [hV]
      rintro e w4 ⟨rfl, hB4⟩
      have o6 := (hB4.cell (p := ⟨w1.heap.size, 0, none⟩) l1).trans m6
      have o7 := (hB4.cell (p := ⟨w1.heap.size, 1, none⟩) l1).trans m7
      have C4 : Below w.heap.size w w4 := C3.trans (hB4.mono C3.size)
      clear hB4 m0 m1 m6 m7 l1 C3
      go_wp2_with (first | (go_at_call 33; refine (viaC (c_lives08 _)).mono ?_; rintro e w' ⟨rfl, m, rfl⟩))
      go_ret
      exact ⟨rfl, below_via C4 _⟩
  · skip
    have Hg1 := Lib.hid g1
    have Hg3 := Lib.hid g3
    clear g1 g3
    rcases hD with ⟨k1, k2⟩ | ⟨k1, k2⟩
    all_goals
      go_enter Try.func13, Try.ntmps13
      go_wp2_with fail
      go_region
      go_wp2_with fail
      go_region
      go_wp2_with fail
      refine (c_words _ _ _ _ (by omega) (by omega) (by omega) (by omega) (by omega) (by omega)).mono ?_
      rw [hTa, hIa]
      rintro e w1 ⟨rfl, hB1⟩
      have u0 : w1.cell? ⟨w.heap.size + 1, 0, none⟩ = some (.int .i64 A) := (hB1.cell (p := ⟨w.heap.size + 1, 0, none⟩) (by simp)).trans (by simp [go_sem])
      have u1 : w1.cell? ⟨w.heap.size + 1, 1, none⟩ = some (.int .i64 p) := (hB1.cell (p := ⟨w.heap.size + 1, 1, none⟩) (by simp)).trans (by simp [go_sem])
      have u2 : w1.cell? ⟨w.heap.size + 1, 2, none⟩ = some (.int .i64 s) := (hB1.cell (p := ⟨w.heap.size + 1, 2, none⟩) (by simp)).trans (by simp [go_sem])
      have v0 : w1.cell? ⟨w.heap.size + 1 + 1, 0, none⟩ = some (.int .i64 B) := (hB1.cell (p := ⟨w.heap.size + 1 + 1, 0, none⟩) (by simp)).trans (by simp [go_sem])
      have v1 : w1.cell? ⟨w.heap.size + 1 + 1, 1, none⟩ = some (.int .i64 q) := (hB1.cell (p := ⟨w.heap.size + 1 + 1, 1, none⟩) (by simp)).trans (by simp [go_sem])
      have v2 : w1.cell? ⟨w.heap.size + 1 + 1, 2, none⟩ = some (.int .i64 r) := (hB1.cell (p := ⟨w.heap.size + 1 + 1, 2, none⟩) (by simp)).trans (by simp [go_sem])
      have y1 : w.heap.size + 1 + 1 < w1.heap.size := Nat.lt_of_lt_of_le (by simp) hB1.size
      have y2 : w.heap.size + 1 < w1.heap.size := by omega
      have C1 : Below w.heap.size w w1 := (((((Below.refl w.heap.size w).alloc (Nat.le_refl _) _).alloc (by simp) _).alloc (by simp; omega) _).drew.drew).trans (hB1.mono (by simp; omega))
      clear hB1
      go_wp2_with fail
      refine (c_words _ _ _ _ (by omega) (by omega) (by omega) (by omega) (by omega) (by omega)).mono ?_
      rw [hTb, hIb]
      rintro e w2 ⟨rfl, hB2⟩
      have x0' := (keep1 (j := 0) hB2 y2).trans u0
      have x1' := (keep1 (j := 1) hB2 y2).trans u1
      have x2' := (keep1 (j := 2) hB2 y2).trans u2
      have x3' := (keep1 (j := 0) hB2 y1).trans v0
      have x4' := (keep1 (j := 1) hB2 y1).trans v1
      have x5' := (keep1 (j := 2) hB2 y1).trans v2
      have x6' : w2.cell? ⟨w1.heap.size, 0, none⟩ = some (.int .u64 Ta) := by rw [hB2.cell (p := ⟨w1.heap.size, 0, none⟩) (by simp)]; simp
      have x7' : w2.cell? ⟨w1.heap.size, 1, none⟩ = some (.int .u64 Ia) := by rw [hB2.cell (p := ⟨w1.heap.size, 1, none⟩) (by simp)]; simp
      have y3 : w1.heap.size < w2.heap.size := Nat.lt_of_lt_of_le (by simp) hB2.size
      have y4 : w1.heap.size ≤ w2.heap.size := by omega
      have y5 : w.heap.size + 1 + 1 < w2.heap.size := by omega
      have y6 : w.heap.size + 1 < w2.heap.size := by omega
      have y7 : w.heap.size + 1 + 1 ≤ w2.heap.size := by omega
      have y8 : w.heap.size + 1 ≤ w2.heap.size := by omega
      have y9 : w.heap.size < w2.heap.size := by omega
      have C2 : Below w.heap.size w w2 := (below_alloc C1 _).trans (hB2.mono (Nat.le_trans C1.size (by simp)))
      clear hB2 u0 u1 u2 v0 v1 v2 y1 y2 C1
      go_wp2_with fail
      have g1 := Hg1.out
      have g3 := Hg3.out
      refine wp_region_via (by kernel_rfl) (by kernel_rfl) ?_
      repeat (go_big_quiet_step (fail))
      refine wpQuiet_nil ?_
      rintro w3 ⟨e, he⟩
      have hb3 := via_below _ e
      rw [← he] at hb3
      have m0 := (keep1 (j := 0) hb3 y6).trans x0'
      have m1 := (keep1 (j := 1) hb3 y6).trans x1'
      have m6 := (keep1 (j := 0) hb3 y3).trans x6'
      have m7 := (keep1 (j := 1) hb3 y3).trans x7'
      have l1 : w1.heap.size < w3.heap.size := Nat.lt_of_lt_of_le (by simp; omega) hb3.size
      have C3 : Below w.heap.size w w3 := (below_alloc C2 _).trans (hb3.mono (Nat.le_trans C2.size (by simp)))
      clear g1 g3
      clear hb3 he e C2 x0' x1' x2' x3' x4' x5' x6' x7' y3 y4 y5 y6 y7 y8 y9
      go_wp2_with (first | (go_at_call 46; refine (c_Ref _ _ (by omega) (by omega)).mono ?_; rintro e w' ⟨rfl, rfl⟩))
      refine (c_Version A p _ (by omega) (by omega) (by omega) (by omega)).mono ?_
      rw [hV]
      rintro e w4 ⟨rfl, hB4⟩
      have o6 := (hB4.cell (p := ⟨w1.heap.size, 0, none⟩) l1).trans m6
      have o7 := (hB4.cell (p := ⟨w1.heap.size, 1, none⟩) l1).trans m7
      have C4 : Below w.heap.size w w4 := C3.trans (hB4.mono C3.size)
      clear hB4 m0 m1 m6 m7 l1 C3
      go_wp2_with (first | (go_at_call 33; refine (viaC (c_lives08 _)).mono ?_; rintro e w' ⟨rfl, m, rfl⟩))
      go_ret
      exact ⟨rfl, below_via C4 _⟩
  · skip
    have Hg3 := Lib.hid g3
    clear g3
    rcases hD with ⟨k1, k2⟩ | ⟨k1, k2⟩
    all_goals
      go_enter Try.func13, Try.ntmps13
      go_wp2_with fail
      go_region
      go_wp2_with fail
      go_region
      go_wp2_with fail
      refine (c_words _ _ _ _ (by omega) (by omega) (by omega) (by omega) (by omega) (by omega)).mono ?_
      rw [hTa, hIa]
      rintro e w1 ⟨rfl, hB1⟩
      have u0 : w1.cell? ⟨w.heap.size + 1, 0, none⟩ = some (.int .i64 A) := (hB1.cell (p := ⟨w.heap.size + 1, 0, none⟩) (by simp)).trans (by simp [go_sem])
      have u1 : w1.cell? ⟨w.heap.size + 1, 1, none⟩ = some (.int .i64 p) := (hB1.cell (p := ⟨w.heap.size + 1, 1, none⟩) (by simp)).trans (by simp [go_sem])
      have u2 : w1.cell? ⟨w.heap.size + 1, 2, none⟩ = some (.int .i64 s) := (hB1.cell (p := ⟨w.heap.size + 1, 2, none⟩) (by simp)).trans (by simp [go_sem])
      have v0 : w1.cell? ⟨w.heap.size + 1 + 1, 0, none⟩ = some (.int .i64 B) := (hB1.cell (p := ⟨w.heap.size + 1 + 1, 0, none⟩) (by simp)).trans (by simp [go_sem])
      have v1 : w1.cell? ⟨w.heap.size + 1 + 1, 1, none⟩ = some (.int .i64 q) := (hB1.cell (p := ⟨w.heap.size + 1 + 1, 1, none⟩) (by simp)).trans (by simp [go_sem])
      have v2 : w1.cell? ⟨w.heap.size + 1 + 1, 2, none⟩ = some (.int .i64 r) := (hB1.cell (p := ⟨w.heap.size + 1 + 1, 2, none⟩) (by simp)).trans (by simp [go_sem])
      have y1 : w.heap.size + 1 + 1 < w1.heap.size := Nat.lt_of_lt_of_le (by simp) hB1.size
      have y2 : w.heap.size + 1 < w1.heap.size := by omega
      have C1 : Below w.heap.size w w1 := (((((Below.refl w.heap.size w).alloc (Nat.le_refl _) _).alloc (by simp) _).alloc (by simp; omega) _).drew.drew).trans (hB1.mono (by simp; omega))
      clear hB1
      go_wp2_with fail
      refine (c_words _ _ _ _ (by omega) (by omega) (by omega) (by omega) (by omega) (by omega)).mono ?_
      rw [hTb, hIb]
      rintro e w2 ⟨rfl, hB2⟩
      have x0' := (keep1 (j := 0) hB2 y2).trans u0
      have x1' := (keep1 (j := 1) hB2 y2).trans u1
      have x2' := (keep1 (j := 2) hB2 y2).trans u2
      have x3' := (keep1 (j := 0) hB2 y1).trans v0
      have x4' := (keep1 (j := 1) hB2 y1).trans v1
      have x5' := (keep1 (j := 2) hB2 y1).trans v2
      have x6' : w2.cell? ⟨w1.heap.size, 0, none⟩ = some (.int .u64 Ta) := by rw [hB2.cell (p := ⟨w1.heap.size, 0, none⟩) (by simp)]; simp
      have x7' : w2.cell? ⟨w1.heap.size, 1, none⟩ = some (.int .u64 Ia) := by rw [hB2.cell (p := ⟨w1.heap.size, 1, none⟩) (by simp)]; simp
      have y3 : w1.heap.size < w2.heap.size := Nat.lt_of_lt_of_le (by simp) hB2.size
      have y4 : w1.heap.size ≤ w2.heap.size := by omega
      have y5 : w.heap.size + 1 + 1 < w2.heap.size := by omega
      have y6 : w.heap.size + 1 < w2.heap.size := by omega
      have y7 : w.heap.size + 1 + 1 ≤ w2.heap.size := by omega
      have y8 : w.heap.size + 1 ≤ w2.heap.size := by omega
      have y9 : w.heap.size < w2.heap.size := by omega
      have C2 : Below w.heap.size w w2 := (below_alloc C1 _).trans (hB2.mono (Nat.le_trans C1.size (by simp)))
      clear hB2 u0 u1 u2 v0 v1 v2 y1 y2 C1
      go_wp2_with fail
      have g3 := Hg3.out
      refine wp_region_via (by kernel_rfl) (by kernel_rfl) ?_
      repeat (go_big_quiet_step (fail))
      refine wpQuiet_nil ?_
      rintro w3 ⟨e, he⟩
      have hb3 := via_below _ e
      rw [← he] at hb3
      have m0 := (keep1 (j := 0) hb3 y6).trans x0'
      have m1 := (keep1 (j := 1) hb3 y6).trans x1'
      have m6 := (keep1 (j := 0) hb3 y3).trans x6'
      have m7 := (keep1 (j := 1) hb3 y3).trans x7'
      have l1 : w1.heap.size < w3.heap.size := Nat.lt_of_lt_of_le (by simp; omega) hb3.size
      have C3 : Below w.heap.size w w3 := (below_alloc C2 _).trans (hb3.mono (Nat.le_trans C2.size (by simp)))
      clear g3
      clear hb3 he e C2 x0' x1' x2' x3' x4' x5' x6' x7' y3 y4 y5 y6 y7 y8 y9
      go_wp2_with (first | (go_at_call 46; refine (c_Ref _ _ (by omega) (by omega)).mono ?_; rintro e w' ⟨rfl, rfl⟩))
      refine (c_Version A p _ (by omega) (by omega) (by omega) (by omega)).mono ?_
      rw [hV]
      rintro e w4 ⟨rfl, hB4⟩
      have o6 := (hB4.cell (p := ⟨w1.heap.size, 0, none⟩) l1).trans m6
      have o7 := (hB4.cell (p := ⟨w1.heap.size, 1, none⟩) l1).trans m7
      have C4 : Below w.heap.size w w4 := C3.trans (hB4.mono C3.size)
      clear hB4 m0 m1 m6 m7 l1 C3
      go_wp2_with (first | (go_at_call 33; refine (viaC (c_lives08 _)).mono ?_; rintro e w' ⟨rfl, m, rfl⟩))
      go_ret
      exact ⟨rfl, below_via C4 _⟩
end Go.Proofs.Ytlaholgclcffaaa
