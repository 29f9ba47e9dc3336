/- Layer 23: HandsVoid. -/
import Derived.Test.YtlcibfpibklbdaaGreatHm
import Derived.Test.YtlcibfpibklbdaaGreatBaK
import Derived.Test.YtlcibfpibklbdaaGreatBaJ
namespace Go.Proofs.YtlcibfpibklbdaaGreat
set_option linter.unusedSimpArgs false
open Go.RowKit Go.Shelf
set_option linter.unusedVariables false

theorem ext0_belowH {S : Nat → Prop} {w w' : World} {G : Om} (e : Ext S O0 w G w') : Below w.heap.size w w' :=
  e.wr.below (fun k _ hk => absurd rfl hk.2) (Nat.le_refl _)
/-- An Evict that is not there, or that no call made. -/
def VoidE (W : World) (v : Value) : Prop := v = .pointer none ∨ ∃ b, v = .pointer (some ⟨b, 0, none⟩) ∧ W.cell? ⟨b, 0, none⟩ = some (.int .i64 0) ∧ W.cell? ⟨b, 5, none⟩ = some (.int .i64 0)
theorem VoidE.below {W W' : World} {v : Value} (h : VoidE W v) (hb : Below W.heap.size W W') : VoidE W' v := by
  rcases h with h | ⟨b, h1, h2, h3⟩
  · exact .inl h
  · exact .inr ⟨b, h1, (hb.cell (p := ⟨b, 0, none⟩) (blk_lt h2)).trans h2, (hb.cell (p := ⟨b, 5, none⟩) (blk_lt h3)).trans h3⟩
theorem VoidE.ptr {W : World} {v : Value} (h : VoidE W v) : ∃ a, v = .pointer a := by
  rcases h with h | ⟨b, h1, -⟩
  · exact ⟨_, h⟩
  · exact ⟨_, h1⟩
theorem c_EvOver0 (w : World) : Calls Tryz.prog 23 #[.pointer none] w fun e w' => e = .returned (.bool true) ∧ w = w' := by
  go_enter Tryz.func23, Tryz.ntmps23
  go_wp2
  go_ret
  exact ⟨rfl, rfl⟩
theorem c_void_over {w : World} {v : Value} (h : VoidE w v) : Calls Tryz.prog 23 #[v] w fun e w' => e = .returned (.bool true) ∧ w = w' := by
  rcases h with rfl | ⟨b, rfl, h2, -⟩
  · exact c_EvOver0 w
  · exact c_EvOver h2
set_option maxHeartbeats 1000000 in
set_option maxRecDepth 100000 in
theorem c_void_step (u : Option Addr) {w : World} {v : Value} (h : VoidE w v) : Calls Tryz.prog 29 #[v, .pointer u] w fun e w' => e = .returned (.bool true) ∧ w = w' := by
  have H := Lib.hid h
  obtain ⟨a, rfl⟩ := h.ptr
  clear h
  go_enter Tryz.func29, Tryz.ntmps29
  go_wp2_with fail
  go_step3
  go_wp2_with fail
  refine (c_void_over H.out).mono ?_
  rintro e w' ⟨rfl, rfl⟩
  go_wp2_with fail
  refine (c_void_over H.out).mono ?_
  rintro e w' ⟨rfl, rfl⟩
  go_wp2_with fail
  rw [Exit.noGoto_ret]
  go_ret
  exact ⟨rfl, rfl⟩
set_option maxHeartbeats 1000000 in
set_option maxRecDepth 100000 in
theorem c_EvStepN {X : Nat} {w : World} (x0 : w.cell? ⟨X, 0, none⟩ = some (.int .i64 1)) : Calls Tryz.prog 29 #[.pointer (some ⟨X, 0, none⟩), .pointer none] w fun e w' => e = .returned (.bool false) ∧ w = w' := by
  go_enter Tryz.func29, Tryz.ntmps29
  go_wp2_with fail
  go_step3
  go_wp2_with fail
  refine (c_EvOver x0).mono ?_
  rintro e w' ⟨rfl, rfl⟩
  go_wp2_with fail
  refine (c_EvOver x0).mono ?_
  rintro e w' ⟨rfl, rfl⟩
  go_wp2_with fail
  rw [Exit.noGoto_ret]
  go_ret
  exact ⟨rfl, rfl⟩
set_option maxHeartbeats 1000000 in
set_option maxRecDepth 100000 in
theorem c_void_got {w : World} {v : Value} (h : VoidE w v) : Calls Tryz.prog 22 #[v] w fun e w' => e = .returned (.tuple #[.int .i64 0, .agg #[.int .i64 0, .int .i64 0, .int .i64 0]]) ∧ Below w.heap.size w w' := by
  rcases h with rfl | ⟨X, rfl, x0, x5⟩
  · go_enter Tryz.func22, Tryz.ntmps22
    go_wp2_with fail
    exact bodyPost_ret (v := .tuple #[.int .i64 0, .agg #[.int .i64 0, .int .i64 0, .int .i64 0]]) (by simp [results, Tryz.results22, go_sem]) rfl ⟨rfl, by first | exact (Below.refl _ _).alloc (Nat.le_refl _) _ | exact ((((Below.refl _ _).alloc (Nat.le_refl _) _).setCell (p := ⟨w.heap.size, 0, none⟩) (Nat.le_refl _) _).setCell (p := ⟨w.heap.size, 1, none⟩) (Nat.le_refl _) _).setCell (p := ⟨w.heap.size, 2, none⟩) (Nat.le_refl _) _⟩
  · have hl := blk_lt x0
    dsimp only at hl
    have hne : ¬ X = w.heap.size := by omega
    have hne2 : ¬ w.heap.size = X := by omega
    go_enter Tryz.func22, Tryz.ntmps22
    go_wp2_with fail
    exact bodyPost_ret (v := .tuple #[.int .i64 0, .agg #[.int .i64 0, .int .i64 0, .int .i64 0]]) (by simp [results, Tryz.results22, go_sem]) rfl ⟨rfl, by first | exact (Below.refl _ _).alloc (Nat.le_refl _) _ | exact ((((Below.refl _ _).alloc (Nat.le_refl _) _).setCell (p := ⟨w.heap.size, 0, none⟩) (Nat.le_refl _) _).setCell (p := ⟨w.heap.size, 1, none⟩) (Nat.le_refl _) _).setCell (p := ⟨w.heap.size, 2, none⟩) (Nat.le_refl _) _⟩
theorem c_NewEvictB (w : World) : Calls Tryz.prog 20 #[] w fun e w' => e = .returned (.pointer (some ⟨w.heap.size, 0, none⟩)) ∧ Below w.heap.size w w' ∧ w'.cell? ⟨w.heap.size, 0, none⟩ = some (.int .i64 1) := by
  go_enter Tryz.func20, Tryz.ntmps20
  go_wp2
  go_ret
  exact ⟨rfl, (Below.refl _ _).alloc (Nat.le_refl _) _, by simp⟩
def fst0 : Fst := ⟨⟨0, 0, 0, 0, 0⟩, false, [], [], [], 0⟩
theorem fst0_in (w : World) : FstIn w fst0 (.slice none 0 0) (.slice none 0 0) (.slice none 0 0) where
  it := Arr.nil _ _
  pu := Arr.nil _ _
  st := Arr.nil _ _
  it1 := by decide
  pu1 := by decide
  st1 := by decide
  key := by intro x hx; cases hx
  pub := by intro x hx; cases hx
  stb := by intro x hx; cases hx
  ti0 := by decide
  ti1 := by decide
set_option maxHeartbeats 4000000 in
set_option maxRecDepth 100000 in
theorem w_HandsVoid (n : Int) (w : World) (r0 : 0 ≤ n) (r1 : n ≤ 255) :
    Calls Tryz.prog 10 #[.int .u8 n] w fun e w' => e = .returned (.bool true) ∧ Below w.heap.size w w' := by
  have hB := c_Begin fst0 _ _ _ w (fst0_in w)
  unfold fstV fst0 at hB
  dsimp only at hB
  have HBg := Lib.hid hB
  clear hB
  go_enter Tryz.func10, Tryz.ntmps10
  go_wp2_with fail
  refine HBg.out.mono ?_
  rintro e w1 ⟨B, C, rfl, G, e1, s, m, pr, n0, n1, m1, hit, hnt⟩
  have HP := Lib.hid pr
  have HH := Lib.hid e1.hi
  have HB := Lib.hid (ext0_belowH e1)
  have HIt := Lib.hid hit
  have HNt := Lib.hid hnt
  clear HBg e1 pr hit hnt
  obtain ⟨M, hM⟩ : ∃ M : Nat, 2 + n % 9 = (M : Int) := ⟨(2 + n % 9).toNat, by omega⟩
  have hM1 : M ≤ 10 := by omega
  have hM2 : 2 ≤ M := by omega
  have hw9 : IntKind.i64.wrap (n % 9) = n % 9 := by simp [IntKind.wrap, IntKind.bits, IntKind.signed]; omega
  have hw8 : wrap64 (n % 9) = n % 9 := by unfold wrap64; omega
  have hw7 : wrap64 (2 + n % 9) = (M : Int) := by unfold wrap64; omega
  clear hw8
  go_wp2_with fail
  obtain ⟨Wa, hWa⟩ : ∃ Wa, Wa = w1.alloc (.cells #[.pointer (some ⟨B.p, 0, none⟩), .pointer (some ⟨C.p, 0, none⟩)] 94) := ⟨_, rfl⟩
  have ba : Below w1.heap.size w1 Wa := by rw [hWa]; exact (Below.refl _ _).alloc (Nat.le_refl _) _
  have y0 : Wa.cell? ⟨w1.heap.size, 0, none⟩ = some (.pointer (some ⟨B.p, 0, none⟩)) := by rw [hWa]; simp
  have y1 : Wa.cell? ⟨w1.heap.size, 1, none⟩ = some (.pointer (some ⟨C.p, 0, none⟩)) := by rw [hWa]; simp
  have na : Wa.heap.size = w1.heap.size + 1 := by rw [hWa]; simp
  obtain ⟨Wb, hWb⟩ : ∃ Wb, Wb = Wa.alloc (.cells #[.int .i64 0, .int .u64 0, .int .i64 0, .int .i64 0, .int .i64 0, .int .i64 0, .int .u64 0, .pointer none, .pointer none, .pointer none] 132) := ⟨_, rfl⟩
  have bb : Below Wa.heap.size Wa Wb := by rw [hWb]; exact (Below.refl _ _).alloc (Nat.le_refl _) _
  have v0 : Wb.cell? ⟨Wa.heap.size, 0, none⟩ = some (.int .i64 0) := by rw [hWb]; simp
  have v5 : Wb.cell? ⟨Wa.heap.size, 5, none⟩ = some (.int .i64 0) := by rw [hWb]; simp
  have nb : Wb.heap.size = Wa.heap.size + 1 := by rw [hWb]; simp
  obtain ⟨Wz, hWz⟩ : ∃ Wz, Wz = Wb.alloc (.cells #[.pointer none, .pointer (some ⟨Wa.heap.size, 0, none⟩)] 49) := ⟨_, rfl⟩
  have bc : Below Wb.heap.size Wb Wz := by rw [hWz]; exact (Below.refl _ _).alloc (Nat.le_refl _) _
  have l0 : Wz.cell? ⟨Wb.heap.size, 0, none⟩ = some (.pointer none) := by rw [hWz]; simp
  have l1 : Wz.cell? ⟨Wb.heap.size, 1, none⟩ = some (.pointer (some ⟨Wa.heap.size, 0, none⟩)) := by rw [hWz]; simp
  have nc : Wz.heap.size = Wb.heap.size + 1 := by rw [hWz]; simp
  have bz : Below w1.heap.size w1 Wz := (ba.trans (bb.mono ba.size)).trans (bc.mono (by omega))
  have v0 := (bc.cell (p := ⟨Wa.heap.size, 0, none⟩) (by show Wa.heap.size < _; omega)).trans v0
  have v5 := (bc.cell (p := ⟨Wa.heap.size, 5, none⟩) (by show Wa.heap.size < _; omega)).trans v5
  have y0 := (bc.cell (p := ⟨w1.heap.size, 0, none⟩) (by show w1.heap.size < _; omega)).trans ((bb.cell (p := ⟨w1.heap.size, 0, none⟩) (by show w1.heap.size < _; omega)).trans y0)
  have y1 := (bc.cell (p := ⟨w1.heap.size, 1, none⟩) (by show w1.heap.size < _; omega)).trans ((bb.cell (p := ⟨w1.heap.size, 1, none⟩) (by show w1.heap.size < _; omega)).trans y1)
  have HVz : Hid (∀ j, j < 2 → ∃ v, Wz.cell? ⟨Wb.heap.size, j, none⟩ = some v ∧ VoidE Wz v) := Lib.hid fun j hj => by
    rcases (show j = 0 ∨ j = 1 by omega) with rfl | rfl
    · exact ⟨_, l0, .inl rfl⟩
    · exact ⟨_, l1, .inr ⟨_, rfl, v0, v5⟩⟩
  have hNz : w1.heap.size < Wz.heap.size := by omega
  have hbz : Wb.heap.size < Wz.heap.size := by omega
  have HBz := Lib.hid bz
  rw [← hWa, ← na, ← hWb, ← nb, ← hWz]
  clear hWa hWb hWz na nb nc ba bb bc bz v0 v5 l0 l1
  obtain ⟨nl, hnl⟩ : ∃ nl, nl = Wb.heap.size := ⟨_, rfl⟩
  rw [← hnl] at HVz hbz ⊢
  clear hnl
  obtain ⟨nz, hnz⟩ : ∃ nz, nz = w1.heap.size := ⟨_, rfl⟩
  rw [← hnz] at y0 y1 hNz ⊢
  have HNZ := Lib.hid hnz
  clear hnz
  go_loopw [6] (fun i wr => ∃ k : Nat, k ≤ M ∧ i = .int .i64 k ∧ Below Wz.heap.size Wz wr)
    (fun i _ => M - (intOf i).toNat)
  case atStart => exact ⟨0, Nat.zero_le _, rfl, Below.refl _ _⟩
  case round =>
    obtain ⟨k, hk, rfl, hb⟩ := hrel
    have HBr := Lib.hid hb
    have x0 := (hb.cell (p := ⟨nz, 0, none⟩) hNz).trans y0
    have x1 := (hb.cell (p := ⟨nz, 1, none⟩) hNz).trans y1
    have hNr : nz < wr.heap.size := Nat.lt_of_lt_of_le hNz hb.size
    by_cases hk2 : k < M
    · obtain ⟨j, hj⟩ : ∃ j : Nat, (k : Int) % 2 = (j : Int) := ⟨((k : Int) % 2).toNat, by omega⟩
      have hj2 : j < 2 := by omega
      have hj3 : (j : Int) < 2 := by omega
      obtain ⟨v, hvc, hvv⟩ := HVz.out j hj2
      have lc := (hb.cell (p := ⟨nl, j, none⟩) hbz).trans hvc
      have HV := Lib.hid (hvv.below hb)
      obtain ⟨a, rfl⟩ := hvv.ptr
      clear hvc hvv hb y0 y1
      go_wp2_with fail
      refine (c_void_got HV.out).mono ?_
      rintro e w2 ⟨rfl, hb2⟩
      have V2 := Lib.hid (HV.out.below hb2)
      have z0 := (hb2.cell (p := ⟨nz, 0, none⟩) hNr).trans x0
      have HB2 := Lib.hid (HBr.out.trans (hb2.mono HBr.out.size))
      have hN2 : nz < w2.heap.size := Nat.lt_of_lt_of_le hNr hb2.size
      clear hb2 x0 x1 lc
      go_upto_region 9 with fail
      obtain ⟨W3, hW3⟩ : ∃ W3, W3 = w2.alloc (.cells #[.int .i64 0, .int .i64 0, .int .i64 0] 45) := ⟨_, rfl⟩
      have b3 : Below w2.heap.size w2 W3 := by rw [hW3]; exact (Below.refl _ _).alloc (Nat.le_refl _) _
      have s0 : W3.cell? ⟨w2.heap.size, 0, none⟩ = some (.int .i64 0) := by rw [hW3]; simp
      have s1 : W3.cell? ⟨w2.heap.size, 1, none⟩ = some (.int .i64 0) := by rw [hW3]; simp
      have s2 : W3.cell? ⟨w2.heap.size, 2, none⟩ = some (.int .i64 0) := by rw [hW3]; simp
      have V3 := Lib.hid (V2.out.below b3)
      have x0 := (b3.cell (p := ⟨nz, 0, none⟩) hN2).trans z0
      have HB3 := Lib.hid (HB2.out.trans (b3.mono HB2.out.size))
      rw [← hW3]
      clear hW3 b3 z0
      go_wp2_with fail
      refine (c_void_over V3.out).mono ?_
      rintro e w' ⟨rfl, rfl⟩
      go_wp2_with fail
      refine (c_void_step _ V3.out).mono ?_
      rintro e w' ⟨rfl, rfl⟩
      go_wp2_with fail
      refine (c_void_step _ V3.out).mono ?_
      rintro e w' ⟨rfl, rfl⟩
      go_wp2_with fail
      go_roundw
      case rel => exact ⟨k + 1, by omega, by go_num, HB3.out⟩
      case measure => simp [intOf]; omega
    · obtain rfl : k = M := by omega
      have HB9 : Hid (Below w1.heap.size w1 wr) := Lib.hid (HBz.out.trans (hb.mono HBz.out.size))
      clear hb y0 y1 HBr
      go_wp2_with fail
      refine (c_NewEvictB wr).mono ?_
      rintro e W8 ⟨rfl, hb8, c8⟩
      have HB8 : Hid (Below w1.heap.size w1 W8) := Lib.hid (HB9.out.trans (hb8.mono HB9.out.size))
      have z0 := (hb8.cell (p := ⟨nz, 0, none⟩) hNr).trans x0
      have z1 := (hb8.cell (p := ⟨nz, 1, none⟩) hNr).trans x1
      clear hb8 x0 x1
      go_wp2_with fail
      refine (c_EvStepN c8).mono ?_
      rintro e w' ⟨rfl, rfl⟩
      go_wp2_with fail
      refine (c_EvOver c8).mono ?_
      rintro e w' ⟨rfl, rfl⟩
      rw [show ((1 : Int) == 0) = false by decide]
      go_wp2_with fail
      refine (c_PSameAll (HP.out.below HH.out HB8.out) (fun j hj => Nat.lt_of_lt_of_le (HH.out j hj) HB8.out.size) (by omega) HNt.out (by rw [HIt.out]; decide)).mono ?_
      rintro e W9 ⟨rfl, hb9⟩
      have HB9 : Hid (Below w1.heap.size w1 W9) := Lib.hid (HB8.out.trans (hb9.mono HB8.out.size))
      clear hb9 z0 z1
      go_wp2_with fail
      refine (c_lives23 W9).mono ?_
      rintro e W10 ⟨rfl, hb10⟩
      go_wp2_with fail
      go_ret
      exact ⟨rfl, HB.out.trans ((HB9.out.trans (hb10.mono HB9.out.size)).mono HB.out.size)⟩
end Go.Proofs.YtlcibfpibklbdaaGreat
