/- Layer 20: MovesVoid. -/
import Derived.Test.YtlcibfpibklbdaaGreatNa
import Derived.Test.YtlcibfpibklbdaaGreatBaD
import Derived.Test.YtlcibfpibklbdaaGreatBaK
import Derived.Test.YtlcibfpibklbdaaGreatBaJ
import Derived.BigQuiet
import Derived.Deep.QuietTactic
namespace Go.Proofs.YtlcibfpibklbdaaGreat
set_option linter.unusedSimpArgs false
open Go.RowKit Go.Shelf
set_option linter.unusedVariables false

set_option maxHeartbeats 4000000 in
set_option maxRecDepth 100000 in
theorem c_rNewMove (t q : Int) (t0 : 0 ≤ t) (t1 : t < 18446744073709551616) (q0 : -9223372036854775808 ≤ q) (q1 : q ≤ 9223372036854775807) (w : World) :
    Calls Tryz.prog 51 #[.int .u64 t, .int .i64 q] w fun e w' => ∃ R, e = .returned (.pointer (some ⟨R, 0, none⟩)) ∧ Below w.heap.size w w' ∧ R < w'.heap.size ∧ w'.cell? ⟨R, 0, none⟩ = some (.int .i64 (mvNew t q).ln) := by
  obtain ⟨z, hz⟩ : ∃ z, z = (mvNew t q).ln := ⟨_, rfl⟩
  rw [← hz]
  unfold mvNew at hz
  have HA := Lib.hid (fun W => c_rAs t W t0 t1)
  have ho := plOld_bd t
  have hn := plNow_bd t
  have HS := Lib.hid (fun W => c_rSize (plOld t) W (by omega) (by omega))
  have hsz := fnvSize_bd (plOld t)
  obtain ⟨old, hold⟩ : ∃ x, x = plOld t := ⟨_, rfl⟩
  obtain ⟨now, hnow⟩ : ∃ x, x = plNow t := ⟨_, rfl⟩
  rw [← hold] at HA HS hz hsz ho
  rw [← hnow] at HA hz hn
  obtain ⟨sz, hsz2⟩ : ∃ x, x = fnvSize old := ⟨_, rfl⟩
  rw [← hsz2] at HS hz hsz
  clear hold hnow hsz2
  by_cases c1 : now = 0
  · rw [if_pos (.inl c1)] at hz
    subst c1
    have HZ := Lib.hid hz
    clear hz
    go_enter Tryz.func51, Tryz.ntmps51
    go_wp2_with fail
    refine (HA.out _).mono ?_
    rintro e w' ⟨rfl, rfl⟩
    go_wp2_with fail
    go_ret
    exact ⟨_, rfl, (Below.refl _ _).alloc (Nat.le_refl _) _, by simp, by rw [HZ.out]; simp⟩
  · have d1 : (now == 0) = false := by simp [c1]
    by_cases c2 : q < 0
    · rw [if_pos (.inr (.inl c2))] at hz
      have HZ := Lib.hid hz
      clear hz c1
      go_enter Tryz.func51, Tryz.ntmps51
      go_wp2_with fail
      refine (HA.out _).mono ?_
      rintro e w' ⟨rfl, rfl⟩
      go_wp2_with fail
      go_ret
      exact ⟨_, rfl, (Below.refl _ _).alloc (Nat.le_refl _) _, by simp, by rw [HZ.out]; simp⟩
    · have d2 : decide (q < 0) = false := by simp; omega
      by_cases c3 : sz ≤ q
      · rw [if_pos (.inr (.inr c3))] at hz
        have HZ := Lib.hid hz
        clear hz c1 c2
        go_enter Tryz.func51, Tryz.ntmps51
        go_wp2_with fail
        refine (HA.out _).mono ?_
        rintro e w' ⟨rfl, rfl⟩
        go_wp2_with fail
        refine (HS.out _).mono ?_
        rintro e w' ⟨rfl, rfl⟩
        go_wp2_with fail
        go_ret
        exact ⟨_, rfl, (Below.refl _ _).alloc (Nat.le_refl _) _, by simp, by rw [HZ.out]; simp⟩
      · rw [if_neg (by omega)] at hz
        have d3 : decide (sz ≤ q) = false := by simp; omega
        have HZ := Lib.hid hz
        clear hz c1 c2 c3
        go_enter Tryz.func51, Tryz.ntmps51
        go_wp2_with fail
        refine (HA.out _).mono ?_
        rintro e w' ⟨rfl, rfl⟩
        go_wp2_with fail
        refine (HS.out _).mono ?_
        rintro e w' ⟨rfl, rfl⟩
        go_wp2_with fail
        go_ret
        exact ⟨_, rfl, (Below.refl _ _).alloc (Nat.le_refl _) _, by simp, by rw [HZ.out]; simp⟩
theorem ext0_belowM {S : Nat → Prop} {w w' : World} {G : Om} (e : Ext S O0 w G w') : Below w.heap.size w w' :=
  e.wr.below (fun k _ hk => absurd rfl hk.2) (Nat.le_refl _)
/-- A Move that is not there, that no call made, or that was told nothing to do. -/
def VoidM (W : World) (v : Value) : Prop := v = .pointer none ∨ ∃ b ao c, v = .pointer (some ⟨b, 0, none⟩) ∧ W.cell? ⟨b, 4, none⟩ = some (.slice ao 0 c) ∧ W.cell? ⟨b, 7, none⟩ = some (.int .i64 0)
theorem VoidM.below {W W' : World} {v : Value} (h : VoidM W v) (hb : Below W.heap.size W W') : VoidM W' v := by
  rcases h with h | ⟨b, ao, c, h1, h2, h3⟩
  · exact .inl h
  · exact .inr ⟨b, ao, c, h1, (hb.cell (p := ⟨b, 4, none⟩) (blk_lt h2)).trans h2, (hb.cell (p := ⟨b, 7, none⟩) (blk_lt h3)).trans h3⟩
theorem VoidM.ptr {W : World} {v : Value} (h : VoidM W v) : ∃ a, v = .pointer a := by
  rcases h with h | ⟨b, ao, c, h1, -⟩
  · exact ⟨_, h⟩
  · exact ⟨_, h1⟩
theorem c_MvOverN (w : World) : Calls Tryz.prog 52 #[.pointer none] w fun e w' => e = .returned (.bool true) ∧ w = w' := by
  go_enter Tryz.func52, Tryz.ntmps52
  go_wp2
  go_ret
  exact ⟨rfl, rfl⟩
theorem c_mvoid_over {w : World} {v : Value} (h : VoidM w v) : Calls Tryz.prog 52 #[v] w fun e w' => e = .returned (.bool true) ∧ w = w' := by
  rcases h with rfl | ⟨b, ao, c, rfl, h2, -⟩
  · exact c_MvOverN w
  · exact c_MvOver0 h2
theorem c_MvLostN (w : World) : Calls Tryz.prog 54 #[.pointer none] w fun e w' => e = .returned (.int .i64 0) ∧ w = w' := by
  go_enter Tryz.func54, Tryz.ntmps54
  go_wp2
  go_ret
  exact ⟨rfl, rfl⟩
theorem c_MvLostZ {X : Nat} {w : World} (x7 : w.cell? ⟨X, 7, none⟩ = some (.int .i64 0)) : Calls Tryz.prog 54 #[.pointer (some ⟨X, 0, none⟩)] w fun e w' => e = .returned (.int .i64 0) ∧ w = w' := by
  go_enter Tryz.func54, Tryz.ntmps54
  go_wp2
  go_ret
  exact ⟨rfl, rfl⟩
theorem c_mvoid_lost {w : World} {v : Value} (h : VoidM w v) : Calls Tryz.prog 54 #[v] w fun e w' => e = .returned (.int .i64 0) ∧ w = w' := by
  rcases h with rfl | ⟨b, ao, c, rfl, -, h3⟩
  · exact c_MvLostN w
  · exact c_MvLostZ h3
set_option maxHeartbeats 1000000 in
set_option maxRecDepth 100000 in
theorem c_mvoid_step (u : Option Addr) {w : World} {v : Value} (h : VoidM w v) : Calls Tryz.prog 53 #[v, .pointer u] w fun e w' => e = .returned (.bool true) ∧ w = w' := by
  have H := Lib.hid h
  obtain ⟨a, rfl⟩ := h.ptr
  clear h
  go_enter Tryz.func53, Tryz.ntmps53
  go_wp2_with fail
  refine (c_mvoid_over H.out).mono ?_
  rintro e w' ⟨rfl, rfl⟩
  go_wp2_with fail
  refine (c_mvoid_over H.out).mono ?_
  rintro e w' ⟨rfl, rfl⟩
  go_wp2_with fail
  go_ret
  exact ⟨rfl, rfl⟩
set_option maxHeartbeats 1000000 in
set_option maxRecDepth 100000 in
theorem c_MvStepN {X : Nat} {w : World} {ao : Option Addr} {c : Nat} (x4 : w.cell? ⟨X, 4, none⟩ = some (.slice ao 1 c)) : Calls Tryz.prog 53 #[.pointer (some ⟨X, 0, none⟩), .pointer none] w fun e w' => e = .returned (.bool false) ∧ w = w' := by
  have HO : Hid (Calls Tryz.prog 52 #[.pointer (some ⟨X, 0, none⟩)] w fun e w' => e = .returned (.bool false) ∧ w = w') := Lib.hid (c_MvOver0 x4)
  clear x4
  go_enter Tryz.func53, Tryz.ntmps53
  go_wp2_with fail
  refine HO.out.mono ?_
  rintro e w' ⟨rfl, rfl⟩
  go_wp2_with fail
  refine HO.out.mono ?_
  rintro e w' ⟨rfl, rfl⟩
  go_wp2_with fail
  go_ret
  exact ⟨rfl, rfl⟩
theorem c_NewMv0 (t q : Int) (t0 : 0 ≤ t) (t1 : t < 18446744073709551616) (q0 : -9223372036854775808 ≤ q) (q1 : q ≤ 9223372036854775807) (w : World) :
    Calls Tryz.prog 50 #[.int .u64 t, .int .i64 q] w fun e w' => ∃ X ao n c, e = .returned (.pointer (some ⟨X, 0, none⟩)) ∧ Below w.heap.size w w' ∧ w.heap.size ≤ X ∧ X < w'.heap.size ∧ w'.cell? ⟨X, 4, none⟩ = some (.slice ao n c) ∧ w'.cell? ⟨X, 7, none⟩ = some (.int .i64 0) ∧ ((mvNew t q).ln = 0 → n = 0) ∧ ((mvNew t q).ln = 1 → n = 1) := by
  refine (c_NewMove (k := 10) (O := O0) t q t0 t1 q0 q1 (by decide) (fun j hj => absurd rfl hj)).mono ?_
  rintro e w' ⟨X, rfl, G, e1, x1⟩
  obtain ⟨p, lv, h1, h2, h3⟩ := x1.ex
  have hx : w.heap.size ≤ X := by
    by_cases hx : w.heap.size ≤ X
    · exact hx
    · have := (e1.lo X (by omega)).symm.trans h1.o
      exact absurd this (by show ¬ (0 : Nat) = 10; decide)
  have c7 := h1.c 7 _ rfl
  have c4 := h1.c 4 _ rfl
  have hl : (mvNew t q).lost = 0 := by unfold mvNew; split <;> rfl
  rw [hl] at c7
  have hc : (mvNew t q).ln = 0 ∨ (mvNew t q).ln = 1 := by
    unfold mvNew; split
    · exact .inl rfl
    · exact .inr rfl
  rcases hc with g | g
  · obtain ⟨ao, c, rfl, -⟩ := (h3.1 g).shape
    exact ⟨X, ao, 0, c, rfl, ext0_belowM e1, hx, h1.lt, c4, c7, fun _ => rfl, fun g' => absurd (g.symm.trans g') (by decide)⟩
  · obtain ⟨d, a, -⟩ := h3.2.1 g
    obtain ⟨ao, c, rfl, -⟩ := a.shape
    exact ⟨X, ao, 1, c, rfl, ext0_belowM e1, hx, h1.lt, c4, c7, fun g' => absurd (g.symm.trans g') (by decide), fun _ => rfl⟩
theorem c_NewMvV (t q : Int) (t0 : 0 ≤ t) (t1 : t < 18446744073709551616) (q0 : -9223372036854775808 ≤ q) (q1 : q ≤ 9223372036854775807) (hb : (mvNew t q).ln = 0) (w : World) :
    Calls Tryz.prog 50 #[.int .u64 t, .int .i64 q] w fun e w' => ∃ X, e = .returned (.pointer (some ⟨X, 0, none⟩)) ∧ Below w.heap.size w w' ∧ w.heap.size ≤ X ∧ X < w'.heap.size ∧ VoidM w' (.pointer (some ⟨X, 0, none⟩)) := by
  refine (c_NewMv0 t q t0 t1 q0 q1 w).mono ?_
  rintro e w' ⟨X, ao, n, c, rfl, hb1, hx, hx2, c4, c7, hn, -⟩
  obtain rfl := hn hb
  exact ⟨X, rfl, hb1, hx, hx2, .inr ⟨X, ao, c, rfl, c4, c7⟩⟩
theorem c_NewMvY (w : World) : Calls Tryz.prog 50 #[.int .u64 770, .int .i64 3] w fun e w' => ∃ X ao c, e = .returned (.pointer (some ⟨X, 0, none⟩)) ∧ Below w.heap.size w w' ∧ w'.cell? ⟨X, 4, none⟩ = some (.slice ao 1 c) := by
  refine (c_NewMv0 770 3 (by decide) (by decide) (by decide) (by decide) w).mono ?_
  rintro e w' ⟨X, ao, n, c, rfl, hb1, hx, hx2, c4, c7, -, hn⟩
  obtain rfl := hn (by decide)
  exact ⟨X, ao, c, rfl, hb1, c4⟩
def fst0m : Fst := ⟨⟨0, 0, 0, 0, 0⟩, false, [], [], [], 0⟩
theorem fst0m_in (w : World) : FstIn w fst0m (.slice none 0 0) (.slice none 0 0) (.slice none 0 0) where
  it := Arr.nil _ _
  pu := Arr.nil _ _
  st := Arr.nil _ _
  it1 := by decide
  pu1 := by decide
  st1 := by decide
  key := by intro x hx; cases hx
  pub := by intro x hx; cases hx
  stb := by intro x hx; cases hx
  ti0 := by decide
  ti1 := by decide
theorem infoMpt : (Tryz.prog.info? 104).map (fun i => (i.zero, i.size, i.bytes)) = some (some (.pointer none), 1, 8) := by kernel_rfl
set_option maxHeartbeats 4000000 in
set_option maxRecDepth 100000 in
theorem w_MovesVoid (word bucket : Int) (w : World) (r0 : 0 ≤ word) (r1 : word ≤ 18446744073709551615) (g0 : -9223372036854775808 ≤ bucket) (g1 : bucket ≤ 9223372036854775807) :
    Calls Tryz.prog 8 #[.int .u64 word, .int .i64 bucket] w fun e w' => e = .returned (.bool true) ∧ Below w.heap.size w w' := by
  have hB := c_Begin fst0m _ _ _ w (fst0m_in w)
  unfold fstV fst0m at hB
  dsimp only at hB
  have HBg := Lib.hid hB
  clear hB
  have HN1 := Lib.hid (fun W => c_NewMvV 2 0 (by decide) (by decide) (by decide) (by decide) (by decide) W)
  have HN2 := Lib.hid (fun W => c_NewMvV 770 4 (by decide) (by decide) (by decide) (by decide) (by decide) W)
  have HN3 := Lib.hid (fun W => c_NewMvV 770 (-1) (by decide) (by decide) (by decide) (by decide) (by decide) W)
  have HRF := Lib.hid (fun W => c_rNewMove word bucket r0 (by omega) g0 g1 W)
  have HNX : Hid ((mvNew word bucket).ln = 0 → ∀ W, Calls Tryz.prog 50 #[.int .u64 word, .int .i64 bucket] W fun e w' => ∃ X, e = .returned (.pointer (some ⟨X, 0, none⟩)) ∧ Below W.heap.size W w' ∧ W.heap.size ≤ X ∧ X < w'.heap.size ∧ VoidM w' (.pointer (some ⟨X, 0, none⟩))) := Lib.hid fun hb W => c_NewMvV word bucket r0 (by omega) g0 g1 hb W
  obtain ⟨ln, hln⟩ : ∃ ln, ln = (mvNew word bucket).ln := ⟨_, rfl⟩
  rw [← hln] at HRF HNX
  clear hln
  go_enter Tryz.func8, Tryz.ntmps8
  go_wp2_with fail
  refine HBg.out.mono ?_
  rintro e w1 ⟨B, C, rfl, G, e1, s, m, pr, n0, n1, m1, hit, hnt⟩
  have HP := Lib.hid pr
  have HH := Lib.hid e1.hi
  have HB := Lib.hid (ext0_belowM e1)
  have HIt := Lib.hid hit
  have HNt := Lib.hid hnt
  clear HBg e1 pr hit hnt
  go_wp2_with fail
  obtain ⟨Wa, hWa⟩ : ∃ Wa, Wa = w1.alloc (.cells #[.pointer (some ⟨B.p, 0, none⟩), .pointer (some ⟨C.p, 0, none⟩)] 94) := ⟨_, rfl⟩
  have ba : Below w1.heap.size w1 Wa := by rw [hWa]; exact (Below.refl _ _).alloc (Nat.le_refl _) _
  have y0 : Wa.cell? ⟨w1.heap.size, 0, none⟩ = some (.pointer (some ⟨B.p, 0, none⟩)) := by rw [hWa]; simp
  have y1 : Wa.cell? ⟨w1.heap.size, 1, none⟩ = some (.pointer (some ⟨C.p, 0, none⟩)) := by rw [hWa]; simp
  have na : Wa.heap.size = w1.heap.size + 1 := by rw [hWa]; simp
  obtain ⟨Wb, hWb⟩ : ∃ Wb, Wb = Wa.alloc (.cells #[.int .i64 0, .int .i64 0, .int .i64 0, .int .i64 0, .slice none 0 0, .int .i64 0, .int .i64 0, .int .i64 0] 103) := ⟨_, rfl⟩
  have bb : Below Wa.heap.size Wa Wb := by rw [hWb]; exact (Below.refl _ _).alloc (Nat.le_refl _) _
  have V0 : VoidM Wb (.pointer (some ⟨Wa.heap.size, 0, none⟩)) := .inr ⟨_, none, 0, rfl, by rw [hWb]; simp, by rw [hWb]; simp⟩
  have nb : Wb.heap.size = Wa.heap.size + 1 := by rw [hWb]; simp
  have bz : Below w1.heap.size w1 Wb := ba.trans (bb.mono ba.size)
  have y0 := (bb.cell (p := ⟨w1.heap.size, 0, none⟩) (by show w1.heap.size < _; omega)).trans y0
  have y1 := (bb.cell (p := ⟨w1.heap.size, 1, none⟩) (by show w1.heap.size < _; omega)).trans y1
  rw [← hWa, ← na, ← hWb]
  obtain ⟨nz, hnz⟩ : ∃ nz, nz = w1.heap.size := ⟨_, rfl⟩
  rw [← hnz] at y0 y1 na ⊢
  have hNb : nz < Wb.heap.size := by omega
  obtain ⟨p0, hp0⟩ : ∃ p0 : Option Addr, p0 = some ⟨Wa.heap.size, 0, none⟩ := ⟨_, rfl⟩
  rw [← hp0] at V0 ⊢
  have HV0 := Lib.hid V0
  have HBz := Lib.hid bz
  have HNZ := Lib.hid hnz
  clear hWa hWb na nb ba bb bz hnz hp0 V0
  have hWb := hNb
  clear hNb
  refine (HN1.out Wb).mono ?_
  rintro e Wc ⟨X1, rfl, bc, hx1, hx1', v1⟩
  obtain ⟨p1, hp1⟩ : ∃ p1 : Option Addr, p1 = some ⟨X1, 0, none⟩ := ⟨_, rfl⟩
  rw [← hp1] at v1 ⊢
  have HV0 := Lib.hid (HV0.out.below bc)
  have HV1 := Lib.hid v1
  have y0 := (bc.cell (p := ⟨nz, 0, none⟩) hWb).trans y0
  have y1 := (bc.cell (p := ⟨nz, 1, none⟩) hWb).trans y1
  have hWc := Nat.lt_of_lt_of_le hWb bc.size
  have HBz := Lib.hid (HBz.out.trans (bc.mono HBz.out.size))
  clear bc hx1 hx1' v1 hp1 hWb
  go_wp2_with fail
  refine (HN2.out Wc).mono ?_
  rintro e Wd ⟨X2, rfl, bc, hx1, hx1', v1⟩
  obtain ⟨p2, hp1⟩ : ∃ p1 : Option Addr, p1 = some ⟨X2, 0, none⟩ := ⟨_, rfl⟩
  rw [← hp1] at v1 ⊢
  have HV0 := Lib.hid (HV0.out.below bc)
  have HV1 := Lib.hid (HV1.out.below bc)
  have HV2 := Lib.hid v1
  have y0 := (bc.cell (p := ⟨nz, 0, none⟩) hWc).trans y0
  have y1 := (bc.cell (p := ⟨nz, 1, none⟩) hWc).trans y1
  have hWd := Nat.lt_of_lt_of_le hWc bc.size
  have HBz := Lib.hid (HBz.out.trans (bc.mono HBz.out.size))
  clear bc hx1 hx1' v1 hp1 hWc
  go_wp2_with fail
  refine (HN3.out Wd).mono ?_
  rintro e We ⟨X3, rfl, bc, hx1, hx1', v1⟩
  obtain ⟨p3, hp1⟩ : ∃ p1 : Option Addr, p1 = some ⟨X3, 0, none⟩ := ⟨_, rfl⟩
  rw [← hp1] at v1 ⊢
  have HV0 := Lib.hid (HV0.out.below bc)
  have HV1 := Lib.hid (HV1.out.below bc)
  have HV2 := Lib.hid (HV2.out.below bc)
  have HV3 := Lib.hid v1
  have y0 := (bc.cell (p := ⟨nz, 0, none⟩) hWd).trans y0
  have y1 := (bc.cell (p := ⟨nz, 1, none⟩) hWd).trans y1
  have hWe := Nat.lt_of_lt_of_le hWd bc.size
  have HBz := Lib.hid (HBz.out.trans (bc.mono HBz.out.size))
  clear bc hx1 hx1' v1 hp1 hWd

  go_upto_region 5 with fail
  obtain ⟨Wy, hWy⟩ : ∃ Wy, Wy = We.alloc (.cells #[.pointer p0, .pointer none, .pointer p1, .pointer p2, .pointer p3] 104) := ⟨_, rfl⟩
  have by5 : Below We.heap.size We Wy := by rw [hWy]; exact (Below.refl _ _).alloc (Nat.le_refl _) _
  have hNy : nz < Wy.heap.size := Nat.lt_of_lt_of_le hWe by5.size
  have hby : We.heap.size < Wy.heap.size := by rw [hWy]; simp
  have y0 := (by5.cell (p := ⟨nz, 0, none⟩) hWe).trans y0
  have y1 := (by5.cell (p := ⟨nz, 1, none⟩) hWe).trans y1
  have hown : Wy.ownsRow We.heap.size 104 1 (.slice (some ⟨We.heap.size, 0, none⟩) 5 5) 5 [.pointer p0, .pointer none, .pointer p1, .pointer p2, .pointer p3] := by
    rw [hWy]
    exact ⟨rfl, .inr ⟨_, 5, #[.pointer p0, .pointer none, .pointer p1, .pointer p2, .pointer p3], rfl, Nat.le_refl _, heap_alloc_new _ _, by decide, by unfold maxLen; decide, rfl, rfl⟩⟩
  have l0 : Wy.cell? ⟨We.heap.size, 0, none⟩ = some (.pointer p0) := by rw [hWy]; simp
  have l1 : Wy.cell? ⟨We.heap.size, 1, none⟩ = some (.pointer none) := by rw [hWy]; simp
  have l2 : Wy.cell? ⟨We.heap.size, 2, none⟩ = some (.pointer p1) := by rw [hWy]; simp
  have l3 : Wy.cell? ⟨We.heap.size, 3, none⟩ = some (.pointer p2) := by rw [hWy]; simp
  have l4 : Wy.cell? ⟨We.heap.size, 4, none⟩ = some (.pointer p3) := by rw [hWy]; simp
  have HL0 := Lib.hid HV0.out
  have HL1 := Lib.hid HV1.out
  have HL2 := Lib.hid HV2.out
  have HL3 := Lib.hid HV3.out
  have HV0 := Lib.hid (HV0.out.below by5)
  have HV1 := Lib.hid (HV1.out.below by5)
  have HV2 := Lib.hid (HV2.out.below by5)
  have HV3 := Lib.hid (HV3.out.below by5)
  have HBy := Lib.hid (HBz.out.trans (by5.mono HBz.out.size))
  rw [← hWy]
  clear hWy by5
  obtain ⟨bz, hbz⟩ : ∃ bz, bz = We.heap.size := ⟨_, rfl⟩
  rw [← hbz] at hown hby l0 l1 l2 l3 l4 ⊢
  have HBe := Lib.hid hbz
  have HOw := Lib.hid hown
  have hNz0 : nz < bz := by omega
  have HVz : Hid (∀ j, j < 5 → ∃ v, Wy.cell? ⟨bz, j, none⟩ = some v ∧ VoidM Wy v) := Lib.hid fun j hj => by
    rcases (show j = 0 ∨ j = 1 ∨ j = 2 ∨ j = 3 ∨ j = 4 by omega) with rfl | rfl | rfl | rfl | rfl
    · exact ⟨_, l0, HV0.out⟩
    · exact ⟨_, l1, .inl rfl⟩
    · exact ⟨_, l2, HV1.out⟩
    · exact ⟨_, l3, HV2.out⟩
    · exact ⟨_, l4, HV3.out⟩
  clear hbz hown l0 l1 l2 l3 l4 hWe
  go_wp2_with fail
  refine (HRF.out Wy).mono ?_
  rintro e Wr ⟨R, rfl, br, hR, hr0⟩
  have y0 := (br.cell (p := ⟨nz, 0, none⟩) hNy).trans y0
  have y1 := (br.cell (p := ⟨nz, 1, none⟩) hNy).trans y1
  have hNr := Nat.lt_of_lt_of_le hNy br.size
  have hbr := Nat.lt_of_lt_of_le hby br.size
  have HOw := Lib.hid (ownsRow_below HOw.out br)
  have HBr := Lib.hid (HBy.out.trans (br.mono HBy.out.size))
  have HVz : Hid (∀ j, j < 5 → ∃ v, Wr.cell? ⟨bz, j, none⟩ = some v ∧ VoidM Wr v) := Lib.hid fun j hj => by
    obtain ⟨v, q1, q2⟩ := HVz.out j hj
    exact ⟨v, (br.cell (p := ⟨bz, j, none⟩) hby).trans q1, q2.below br⟩
  have HV0 := Lib.hid (HV0.out.below br)
  have HV1 := Lib.hid (HV1.out.below br)
  have HV2 := Lib.hid (HV2.out.below br)
  have HV3 := Lib.hid (HV3.out.below br)
  clear br hNy hby HBy
  by_cases hl0 : ln = 0
  · subst hl0
    have HNY := HNX.out rfl
    clear HNX
    have HNY := Lib.hid HNY
    go_wp2_with fail
    refine (HNY.out Wr).mono ?_
    rintro e W6 ⟨X4, rfl, b6, hx4, hx4', v4⟩
    have hown6 := Lib.hid (ownsRow_below HOw.out b6)
    have y0 := (b6.cell (p := ⟨nz, 0, none⟩) hNr).trans y0
    have y1 := (b6.cell (p := ⟨nz, 1, none⟩) hNr).trans y1
    have hN6 := Nat.lt_of_lt_of_le hNr b6.size
    have HB6 := Lib.hid (HBr.out.trans (b6.mono HBr.out.size))
    have U := Lib.hid (fun v (h : VoidM Wr v) => h.below b6)
    have U4 := Lib.hid v4
    have hb6 : bz ≤ W6.heap.size := by have := b6.size; omega
    obtain ⟨p4, hp4⟩ : ∃ p4 : Option Addr, p4 = some ⟨X4, 0, none⟩ := ⟨_, rfl⟩
    have HP4 := Lib.hid hp4
    have HT4 : Hid (bz < X4) := Lib.hid (by omega)
    rw [← hp4] at U4
    rw [← hp4]
    clear b6 v4 hp4 hNr hx4 hx4' hbr hr0 hR
    obtain ⟨i0, hi, hi0, hi1, hi2⟩ := info_parts infoMpt
    go_wp2_with (at_builtin; refine append_one W6 rfl _ _ 106 rfl bz 104 i0 _ 1 8 Tryz.underlying106 hi hi0 hi1 hi2 rfl (by decide) (by decide) (.slice (some ⟨bz, 0, none⟩) 5 5) 5 [.pointer p0, .pointer none, .pointer p1, .pointer p2, .pointer p3] rfl hown6.out [.pointer p4] _ rfl rfl (by simp [Value.oneCell']) (by decide) hb6 ?_; intro gg cap Wz hownz hgr; have HOz := Lib.hid hownz; have HGr := Lib.hid hgr; clear hownz hgr)
    have hWr : Hid (Wrote (fun k => k = bz) W6 Wz) := Lib.hid ((Wrote.refl _ _).grown HGr.out fun k hk _ => by cases hk; rfl)
    have y0 := (hWr.out.cell (p := ⟨nz, 0, none⟩) hN6 (by show ¬ nz = bz; omega)).trans y0
    have y1 := (hWr.out.cell (p := ⟨nz, 1, none⟩) hN6 (by show ¬ nz = bz; omega)).trans y1
    have hNy : nz < Wz.heap.size := Nat.lt_of_lt_of_le hN6 hWr.out.size
    obtain ⟨nl, hnl⟩ : ∃ b', b' = gg := ⟨_, rfl⟩
    subst hnl
    have hby := (HOz.out.lt nl rfl).2
    have HBz : Hid (Below w1.heap.size w1 Wz) := Lib.hid (HB6.out.trans (hWr.out.below (fun k _ hk => by rw [hk]; have := HNZ.out; omega) (by have := HB6.out.size; omega)))
    have hcs := fun j u hj => HOz.out.cells (g := nl) rfl j u hj
    have hadd : ∀ j, (⟨nl, 0, none⟩ : Addr).add j = ⟨nl, j, none⟩ := fun j => by unfold Addr.add; split <;> simp_all
    have hvw : ∀ v, VoidM W6 v → (∀ b, v = .pointer (some ⟨b, 0, none⟩) → b ≠ bz) → VoidM Wz v := fun v h hn => by
      rcases h with h | ⟨b, ao, c, h1, h2, h3⟩
      · exact .inl h
      · exact .inr ⟨b, ao, c, h1, (hWr.out.cell (p := ⟨b, 4, none⟩) (blk_lt h2) (hn b h1)).trans h2, (hWr.out.cell (p := ⟨b, 7, none⟩) (blk_lt h3) (hn b h1)).trans h3⟩
    have hw5 : ∀ p, VoidM We (.pointer p) → VoidM Wr (.pointer p) → VoidM Wz (.pointer p) := fun p h h' => hvw _ (U.out _ h') fun b hb => by
      rcases h with h | ⟨b2, ao, c, h1, h2, -⟩
      · rw [h] at hb; cases hb
      · rw [h1] at hb; cases hb; have := blk_lt h2; rw [HBe.out]; dsimp only at this; omega
    have HVz : Hid (∀ k, k < 6 → ∃ v, Wz.cell? ⟨nl, k, none⟩ = some v ∧ VoidM Wz v) := Lib.hid fun k hk => by
      rcases (show k = 0 ∨ k = 1 ∨ k = 2 ∨ k = 3 ∨ k = 4 ∨ k = 5 by omega) with rfl | rfl | rfl | rfl | rfl | rfl
      · exact ⟨_, by rw [← hadd]; exact hcs 0 _ rfl, hw5 _ HL0.out HV0.out⟩
      · exact ⟨_, by rw [← hadd]; exact hcs 1 _ rfl, .inl rfl⟩
      · exact ⟨_, by rw [← hadd]; exact hcs 2 _ rfl, hw5 _ HL1.out HV1.out⟩
      · exact ⟨_, by rw [← hadd]; exact hcs 3 _ rfl, hw5 _ HL2.out HV2.out⟩
      · exact ⟨_, by rw [← hadd]; exact hcs 4 _ rfl, hw5 _ HL3.out HV3.out⟩
      · exact ⟨_, by rw [← hadd]; exact hcs 5 _ rfl, hvw _ U4.out fun b hb => by rw [HP4.out] at hb; cases hb; have := HT4.out; omega⟩
    clear hcs hadd hvw hw5 hN6 hb6

    go_loopw [9] (fun i wr => ∃ k : Nat, k ≤ 6 ∧ i = .int .i64 k ∧ Below Wz.heap.size Wz wr)
      (fun i _ => 6 - (intOf i).toNat)
    case atStart => exact ⟨0, Nat.zero_le _, rfl, Below.refl _ _⟩
    case round =>
      obtain ⟨k, hk, rfl, hb⟩ := hrel
      have HBr := Lib.hid hb
      have x0 := (hb.cell (p := ⟨nz, 0, none⟩) hNy).trans y0
      have x1 := (hb.cell (p := ⟨nz, 1, none⟩) hNy).trans y1
      have hNr : nz < wr.heap.size := Nat.lt_of_lt_of_le hNy hb.size
      by_cases hk2 : k < 6
      · obtain ⟨v, hvc, hvv⟩ := HVz.out k hk2
        have xc := (hb.cell (p := ⟨nl, k, none⟩) hby).trans hvc
        have HV := Lib.hid (hvv.below hb)
        obtain ⟨a, rfl⟩ := hvv.ptr
        have hbr : nl < wr.heap.size := Nat.lt_of_lt_of_le hby hb.size
        have hki : (k : Int) < 6 := by omega
        clear hvc hvv hb y0 y1
        go_upto_region 10 with fail
        have HVv := Lib.hid (fun e => HV.out.below (via_below wr e))
        refine wp_region_via (by kernel_rfl) (by kernel_rfl) ?_
        repeat (go_big_quiet_step ((first
          | (go_at_call 52; exact viaS (c_mvoid_over (HVv.out _)))
          | (go_at_call 54; exact viaS (c_mvoid_lost (HVv.out _)))
          | (go_at_call 53; exact viaS (c_mvoid_step _ (HVv.out _))))))
        refine wpQuiet_nil ?_
        rintro _ ⟨e, rfl⟩
        have HB4 := Lib.hid (HBr.out.trans ((via_below wr e).mono HBr.out.size))
        go_wp2_with fail
        go_roundw
        case rel => exact ⟨k + 1, by omega, by go_num, HB4.out⟩
        case measure => simp [intOf]; omega
      · obtain rfl : k = 6 := by omega
        have HB9 : Hid (Below w1.heap.size w1 wr) := Lib.hid (HBz.out.trans (hb.mono HBz.out.size))
        clear hb y0 y1 HBr
        go_wp2_with fail
        refine (c_NewMvY wr).mono ?_
        rintro e W8 ⟨X, ao, c, rfl, hb8, c4⟩
        have HO : Hid (Calls Tryz.prog 52 #[.pointer (some ⟨X, 0, none⟩)] W8 fun e w' => e = .returned (.bool false) ∧ W8 = w') := Lib.hid (c_MvOver0 c4)
        have HS := Lib.hid (c_MvStepN c4)
        have HB8 : Hid (Below w1.heap.size w1 W8) := Lib.hid (HB9.out.trans (hb8.mono HB9.out.size))
        have z0 := (hb8.cell (p := ⟨nz, 0, none⟩) hNr).trans x0
        have z1 := (hb8.cell (p := ⟨nz, 1, none⟩) hNr).trans x1
        clear hb8 x0 x1 c4
        go_wp2_with fail
        refine HS.out.mono ?_
        rintro e w' ⟨rfl, rfl⟩
        go_wp2_with fail
        refine HO.out.mono ?_
        rintro e w' ⟨rfl, rfl⟩
        go_wp2_with fail
        refine (c_PSameAll (HP.out.below HH.out HB8.out) (fun j hj => Nat.lt_of_lt_of_le (HH.out j hj) HB8.out.size) (by omega) HNt.out (by rw [HIt.out]; decide)).mono ?_
        rintro e W9 ⟨rfl, hb9⟩
        have HB9 : Hid (Below w1.heap.size w1 W9) := Lib.hid (HB8.out.trans (hb9.mono HB8.out.size))
        clear hb9 z0 z1
        go_wp2_with fail
        refine (c_lives20 W9).mono ?_
        rintro e W10 ⟨rfl, hb10⟩
        go_wp2_with fail
        go_ret
        exact ⟨rfl, HB.out.trans ((HB9.out.trans (hb10.mono HB9.out.size)).mono HB.out.size)⟩
  · have d1 : (ln == 0) = false := by simp [hl0]
    have HBz := HBr
    have hNy := hNr
    have hby := hbr
    obtain ⟨nl, hnl⟩ : ∃ nl, nl = bz := ⟨_, rfl⟩
    rw [← hnl] at HVz hby ⊢
    clear hnl hNr hbr hl0
    go_wp2_with fail

    go_loopw [9] (fun i wr => ∃ k : Nat, k ≤ 5 ∧ i = .int .i64 k ∧ Below Wr.heap.size Wr wr)
      (fun i _ => 5 - (intOf i).toNat)
    case atStart => exact ⟨0, Nat.zero_le _, rfl, Below.refl _ _⟩
    case round =>
      obtain ⟨k, hk, rfl, hb⟩ := hrel
      have HBr := Lib.hid hb
      have x0 := (hb.cell (p := ⟨nz, 0, none⟩) hNy).trans y0
      have x1 := (hb.cell (p := ⟨nz, 1, none⟩) hNy).trans y1
      have hNr : nz < wr.heap.size := Nat.lt_of_lt_of_le hNy hb.size
      by_cases hk2 : k < 5
      · obtain ⟨v, hvc, hvv⟩ := HVz.out k hk2
        have xc := (hb.cell (p := ⟨nl, k, none⟩) hby).trans hvc
        have HV := Lib.hid (hvv.below hb)
        obtain ⟨a, rfl⟩ := hvv.ptr
        have hbr : nl < wr.heap.size := Nat.lt_of_lt_of_le hby hb.size
        have hki : (k : Int) < 5 := by omega
        clear hvc hvv hb y0 y1
        go_upto_region 10 with fail
        have HVv := Lib.hid (fun e => HV.out.below (via_below wr e))
        refine wp_region_via (by kernel_rfl) (by kernel_rfl) ?_
        repeat (go_big_quiet_step ((first
          | (go_at_call 52; exact viaS (c_mvoid_over (HVv.out _)))
          | (go_at_call 54; exact viaS (c_mvoid_lost (HVv.out _)))
          | (go_at_call 53; exact viaS (c_mvoid_step _ (HVv.out _))))))
        refine wpQuiet_nil ?_
        rintro _ ⟨e, rfl⟩
        have HB4 := Lib.hid (HBr.out.trans ((via_below wr e).mono HBr.out.size))
        go_wp2_with fail
        go_roundw
        case rel => exact ⟨k + 1, by omega, by go_num, HB4.out⟩
        case measure => simp [intOf]; omega
      · obtain rfl : k = 5 := by omega
        have HB9 : Hid (Below w1.heap.size w1 wr) := Lib.hid (HBz.out.trans (hb.mono HBz.out.size))
        clear hb y0 y1 HBr
        go_wp2_with fail
        refine (c_NewMvY wr).mono ?_
        rintro e W8 ⟨X, ao, c, rfl, hb8, c4⟩
        have HO : Hid (Calls Tryz.prog 52 #[.pointer (some ⟨X, 0, none⟩)] W8 fun e w' => e = .returned (.bool false) ∧ W8 = w') := Lib.hid (c_MvOver0 c4)
        have HS := Lib.hid (c_MvStepN c4)
        have HB8 : Hid (Below w1.heap.size w1 W8) := Lib.hid (HB9.out.trans (hb8.mono HB9.out.size))
        have z0 := (hb8.cell (p := ⟨nz, 0, none⟩) hNr).trans x0
        have z1 := (hb8.cell (p := ⟨nz, 1, none⟩) hNr).trans x1
        clear hb8 x0 x1 c4
        go_wp2_with fail
        refine HS.out.mono ?_
        rintro e w' ⟨rfl, rfl⟩
        go_wp2_with fail
        refine HO.out.mono ?_
        rintro e w' ⟨rfl, rfl⟩
        go_wp2_with fail
        refine (c_PSameAll (HP.out.below HH.out HB8.out) (fun j hj => Nat.lt_of_lt_of_le (HH.out j hj) HB8.out.size) (by omega) HNt.out (by rw [HIt.out]; decide)).mono ?_
        rintro e W9 ⟨rfl, hb9⟩
        have HB9 : Hid (Below w1.heap.size w1 W9) := Lib.hid (HB8.out.trans (hb9.mono HB8.out.size))
        clear hb9 z0 z1
        go_wp2_with fail
        refine (c_lives20 W9).mono ?_
        rintro e W10 ⟨rfl, hb10⟩
        go_wp2_with fail
        go_ret
        exact ⟨rfl, HB.out.trans ((HB9.out.trans (hb10.mono HB9.out.size)).mono HB.out.size)⟩
end Go.Proofs.YtlcibfpibklbdaaGreat
