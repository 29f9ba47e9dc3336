/- Layer 24: VictimsVoid. -/
import Derived.Test.YtlcibfpibklbdaaGreatLw
import Derived.Test.YtlcibfpibklbdaaGreatBaK
import Derived.Test.YtlcibfpibklbdaaGreatBaJ
import Derived.BigQuiet
import Derived.Deep.QuietTactic
namespace Go.Proofs.YtlcibfpibklbdaaGreat
set_option linter.unusedSimpArgs false
open Go.RowKit Go.Shelf
set_option linter.unusedVariables false

theorem ext0_belowV {S : Nat → Prop} {w w' : World} {G : Om} (e : Ext S O0 w G w') : Below w.heap.size w w' :=
  e.wr.below (fun k _ hk => absurd rfl hk.2) (Nat.le_refl _)
/-- A Victim that is not there, that no call made, or of no table. -/
def VoidV (W : World) (v : Value) : Prop := v = .pointer none ∨ ∃ b, v = .pointer (some ⟨b, 0, none⟩) ∧ W.cell? ⟨b, 1, none⟩ = some .nilFunc ∧ W.cell? ⟨b, 3, none⟩ = some (.bool false)
theorem VoidV.below {W W' : World} {v : Value} (h : VoidV W v) (hb : Below W.heap.size W W') : VoidV W' v := by
  rcases h with h | ⟨b, h1, h2, h3⟩
  · exact .inl h
  · exact .inr ⟨b, h1, (hb.cell (p := ⟨b, 1, none⟩) (blk_lt h2)).trans h2, (hb.cell (p := ⟨b, 3, none⟩) (blk_lt h3)).trans h3⟩
theorem VoidV.ptr {W : World} {v : Value} (h : VoidV W v) : ∃ a, v = .pointer a := by
  rcases h with h | ⟨b, h1, -⟩
  · exact ⟨_, h⟩
  · exact ⟨_, h1⟩
theorem c_VcOver0 (w : World) : Calls Tryz.prog 47 #[.pointer none] w fun e w' => e = .returned (.bool true) ∧ w = w' := by
  go_enter Tryz.func47, Tryz.ntmps47
  go_wp2
  go_ret
  exact ⟨rfl, rfl⟩
theorem c_vvoid_over {w : World} {v : Value} (h : VoidV w v) : Calls Tryz.prog 47 #[v] w fun e w' => e = .returned (.bool true) ∧ w = w' := by
  rcases h with rfl | ⟨b, rfl, h2, -⟩
  · exact c_VcOver0 w
  · exact c_VOver b .nilFunc w h2 true (.inl ⟨rfl, rfl⟩)
set_option maxHeartbeats 1000000 in
set_option maxRecDepth 100000 in
theorem c_vvoid_step (u : Option Addr) {w : World} {v : Value} (h : VoidV w v) : Calls Tryz.prog 68 #[v, .pointer u] w fun e w' => e = .returned (.bool true) ∧ w = w' := by
  have H := Lib.hid h
  obtain ⟨a, rfl⟩ := h.ptr
  clear h
  go_enter Tryz.func68, Tryz.ntmps68
  go_wp2_with fail
  refine (c_vvoid_over H.out).mono ?_
  rintro e w' ⟨rfl, rfl⟩
  go_wp2_with fail
  refine (c_vvoid_over H.out).mono ?_
  rintro e w' ⟨rfl, rfl⟩
  go_wp2_with fail
  go_ret
  exact ⟨rfl, rfl⟩
set_option maxHeartbeats 1000000 in
set_option maxRecDepth 100000 in
theorem c_VcStepN {X : Nat} {w : World} {dv : Value} (x1 : w.cell? ⟨X, 1, none⟩ = some dv) (hd : ∃ f a c, dv = .func f a c) : Calls Tryz.prog 68 #[.pointer (some ⟨X, 0, none⟩), .pointer none] w fun e w' => e = .returned (.bool false) ∧ w = w' := by
  have HO := Lib.hid (c_VOver X dv w x1 false (.inr (by obtain ⟨f, a, c, h⟩ := hd; exact ⟨f, a, c, h, rfl⟩)))
  obtain ⟨f, a, c, rfl⟩ := hd
  go_enter Tryz.func68, Tryz.ntmps68
  go_wp2_with fail
  refine HO.out.mono ?_
  rintro e w' ⟨rfl, rfl⟩
  go_wp2_with fail
  refine HO.out.mono ?_
  rintro e w' ⟨rfl, rfl⟩
  go_wp2_with fail
  go_ret
  exact ⟨rfl, rfl⟩
set_option maxHeartbeats 1000000 in
set_option maxRecDepth 100000 in
theorem c_vgot0 {X : Nat} {w : World} (x3 : w.cell? ⟨X, 3, none⟩ = some (.bool false)) : Calls Tryz.prog 42 #[.pointer (some ⟨X, 0, none⟩)] w fun e w' => e = .returned (.tuple #[.agg #[.int .i64 0, .int .i64 0, .int .i64 0], .bool false]) ∧ Below w.heap.size w w' := by
  have hl := blk_lt x3
  dsimp only at hl
  have hne : ¬ X = w.heap.size := by omega
  have hne2 : ¬ w.heap.size = X := by omega
  go_enter Tryz.func42, Tryz.ntmps42
  go_wp2_with fail
  exact bodyPost_ret (v := .tuple #[.agg #[.int .i64 0, .int .i64 0, .int .i64 0], .bool false]) (by simp [results, Tryz.results42, go_sem]) rfl ⟨rfl, by first | exact (Below.refl _ _).alloc (Nat.le_refl _) _ | exact ((((Below.refl _ _).alloc (Nat.le_refl _) _).setCell (p := ⟨w.heap.size, 0, none⟩) (Nat.le_refl _) _).setCell (p := ⟨w.heap.size, 1, none⟩) (Nat.le_refl _) _).setCell (p := ⟨w.heap.size, 2, none⟩) (Nat.le_refl _) _⟩
set_option maxHeartbeats 1000000 in
set_option maxRecDepth 100000 in
theorem c_vvoid_got {w : World} {v : Value} (h : VoidV w v) : Calls Tryz.prog 42 #[v] w fun e w' => e = .returned (.tuple #[.agg #[.int .i64 0, .int .i64 0, .int .i64 0], .bool false]) ∧ Below w.heap.size w w' := by
  rcases h with rfl | ⟨X, rfl, x1, x3⟩
  · go_enter Tryz.func42, Tryz.ntmps42
    go_wp2_with fail
    exact bodyPost_ret (v := .tuple #[.agg #[.int .i64 0, .int .i64 0, .int .i64 0], .bool false]) (by simp [results, Tryz.results42, go_sem]) rfl ⟨rfl, by first | exact (Below.refl _ _).alloc (Nat.le_refl _) _ | exact ((((Below.refl _ _).alloc (Nat.le_refl _) _).setCell (p := ⟨w.heap.size, 0, none⟩) (Nat.le_refl _) _).setCell (p := ⟨w.heap.size, 1, none⟩) (Nat.le_refl _) _).setCell (p := ⟨w.heap.size, 2, none⟩) (Nat.le_refl _) _⟩
  · exact c_vgot0 x3
theorem c_NewVc0 (b h : Int) (b0 : -9223372036854775808 ≤ b) (b1 : b ≤ 9223372036854775807) (h0 : 0 ≤ h) (h1 : h < 18446744073709551616) (w : World) :
    Calls Tryz.prog 41 #[.int .i64 b, .int .u64 h] w fun e w' => ∃ X dv, e = .returned (.pointer (some ⟨X, 0, none⟩)) ∧ Below w.heap.size w w' ∧ w.heap.size ≤ X ∧ X < w'.heap.size ∧ w'.cell? ⟨X, 1, none⟩ = some dv ∧ w'.cell? ⟨X, 3, none⟩ = some (.bool false) ∧ (¬ vcTab b → dv = .nilFunc) ∧ (vcTab b → ∃ f a c, dv = .func f a c) := by
  refine (c_NewVictim (k := 10) (O := O0) b h b0 b1 h0 h1 (by decide) (fun j hj => absurd rfl hj)).mono ?_
  rintro e w' ⟨X, rfl, G, e1, x1⟩
  obtain ⟨lv, dv, h1, h2, h3, h4⟩ := x1.ex
  refine ⟨X, dv, rfl, ext0_belowV e1, ?_, h1.lt, h1.c 1 _ rfl, ?_, fun hb => h4.1 ?_, fun hb => ?_⟩
  · by_cases hx : w.heap.size ≤ X
    · exact hx
    · have := (e1.lo X (by omega)).symm.trans h1.o
      exact absurd this (by show ¬ (0 : Nat) = 10; decide)
  · have := h1.c 3 _ rfl
    rw [this]
    unfold vcNew
    split <;> rfl
  · unfold vcNew
    rw [if_neg hb]
  · obtain ⟨bs, bx, e, -⟩ := h4.2.1 (by unfold vcNew; rw [if_pos hb])
    exact ⟨_, _, _, e⟩
theorem c_NewVcV (b h : Int) (b0 : -9223372036854775808 ≤ b) (b1 : b ≤ 9223372036854775807) (h0 : 0 ≤ h) (h1 : h < 18446744073709551616) (hb : ¬ vcTab b) (w : World) :
    Calls Tryz.prog 41 #[.int .i64 b, .int .u64 h] w fun e w' => ∃ X, e = .returned (.pointer (some ⟨X, 0, none⟩)) ∧ Below w.heap.size w w' ∧ w.heap.size ≤ X ∧ X < w'.heap.size ∧ VoidV w' (.pointer (some ⟨X, 0, none⟩)) := by
  refine (c_NewVc0 b h b0 b1 h0 h1 w).mono ?_
  rintro e w' ⟨X, dv, rfl, hb1, hx, hx2, c1, c3, hn, -⟩
  obtain rfl := hn hb
  exact ⟨X, rfl, hb1, hx, hx2, .inr ⟨X, rfl, c1, c3⟩⟩
def fst0v : Fst := ⟨⟨0, 0, 0, 0, 0⟩, false, [], [], [], 0⟩
theorem fst0v_in (w : World) : FstIn w fst0v (.slice none 0 0) (.slice none 0 0) (.slice none 0 0) where
  it := Arr.nil _ _
  pu := Arr.nil _ _
  st := Arr.nil _ _
  it1 := by decide
  pu1 := by decide
  st1 := by decide
  key := by intro x hx; cases hx
  pub := by intro x hx; cases hx
  stb := by intro x hx; cases hx
  ti0 := by decide
  ti1 := by decide
theorem infoVpt : (Tryz.prog.info? 80).map (fun i => (i.zero, i.size, i.bytes)) = some (some (.pointer none), 1, 8) := by kernel_rfl
set_option maxHeartbeats 4000000 in
set_option maxRecDepth 100000 in
theorem w_VictimsVoid (bits h : Int) (w : World) (r0 : -9223372036854775808 ≤ bits) (r1 : bits ≤ 9223372036854775807) (g0 : 0 ≤ h) (g1 : h ≤ 18446744073709551615) :
    Calls Tryz.prog 12 #[.int .i64 bits, .int .u64 h] w fun e w' => e = .returned (.bool true) ∧ Below w.heap.size w w' := by
  have hB := c_Begin fst0v _ _ _ w (fst0v_in w)
  unfold fstV fst0v at hB
  dsimp only at hB
  have HBg := Lib.hid hB
  clear hB
  have HNV := Lib.hid (fun W b q0 q1 hb => c_NewVcV b h q0 q1 g0 (by omega) hb W)
  have HNW := Lib.hid (fun W => c_NewVc0 2 h (by decide) (by decide) g0 (by omega) W)
  have HNX : Hid (¬ vcTab bits → ∀ W, Calls Tryz.prog 41 #[.int .i64 bits, .int .u64 h] W fun e w' => ∃ X, e = .returned (.pointer (some ⟨X, 0, none⟩)) ∧ Below W.heap.size W w' ∧ W.heap.size ≤ X ∧ X < w'.heap.size ∧ VoidV w' (.pointer (some ⟨X, 0, none⟩))) := Lib.hid fun hb W => c_NewVcV bits h r0 r1 g0 (by omega) hb W
  go_enter Tryz.func12, Tryz.ntmps12
  go_wp2_with fail
  refine HBg.out.mono ?_
  rintro e w1 ⟨B, C, rfl, G, e1, s, m, pr, n0, n1, m1, hit, hnt⟩
  have HP := Lib.hid pr
  have HH := Lib.hid e1.hi
  have HB := Lib.hid (ext0_belowV e1)
  have HIt := Lib.hid hit
  have HNt := Lib.hid hnt
  clear HBg e1 pr hit hnt
  go_wp2_with fail
  obtain ⟨Wa, hWa⟩ : ∃ Wa, Wa = w1.alloc (.cells #[.pointer (some ⟨B.p, 0, none⟩), .pointer (some ⟨C.p, 0, none⟩)] 94) := ⟨_, rfl⟩
  have ba : Below w1.heap.size w1 Wa := by rw [hWa]; exact (Below.refl _ _).alloc (Nat.le_refl _) _
  have y0 : Wa.cell? ⟨w1.heap.size, 0, none⟩ = some (.pointer (some ⟨B.p, 0, none⟩)) := by rw [hWa]; simp
  have y1 : Wa.cell? ⟨w1.heap.size, 1, none⟩ = some (.pointer (some ⟨C.p, 0, none⟩)) := by rw [hWa]; simp
  have na : Wa.heap.size = w1.heap.size + 1 := by rw [hWa]; simp
  obtain ⟨Wb, hWb⟩ : ∃ Wb, Wb = Wa.alloc (.cells #[.slice none 0 0, .nilFunc, .int .i64 0, .bool false] 148) := ⟨_, rfl⟩
  have bb : Below Wa.heap.size Wa Wb := by rw [hWb]; exact (Below.refl _ _).alloc (Nat.le_refl _) _
  have V0 : VoidV Wb (.pointer (some ⟨Wa.heap.size, 0, none⟩)) := .inr ⟨_, rfl, by rw [hWb]; simp, by rw [hWb]; simp⟩
  have nb : Wb.heap.size = Wa.heap.size + 1 := by rw [hWb]; simp
  have bz : Below w1.heap.size w1 Wb := ba.trans (bb.mono ba.size)
  have y0 := (bb.cell (p := ⟨w1.heap.size, 0, none⟩) (by show w1.heap.size < _; omega)).trans y0
  have y1 := (bb.cell (p := ⟨w1.heap.size, 1, none⟩) (by show w1.heap.size < _; omega)).trans y1
  rw [← hWa, ← na, ← hWb]
  obtain ⟨nz, hnz⟩ : ∃ nz, nz = w1.heap.size := ⟨_, rfl⟩
  rw [← hnz] at y0 y1 na ⊢
  have hNb : nz < Wb.heap.size := by omega
  obtain ⟨p0, hp0⟩ : ∃ p0 : Option Addr, p0 = some ⟨Wa.heap.size, 0, none⟩ := ⟨_, rfl⟩
  rw [← hp0] at V0 ⊢
  have HV0 := Lib.hid V0
  have HBz := Lib.hid bz
  have HNZ := Lib.hid hnz
  clear hWa hWb na nb ba bb bz hnz hp0 V0
  refine (HNV.out Wb 0 (by decide) (by decide) (by unfold vcTab; omega)).mono ?_
  rintro e Wc ⟨X1, rfl, bc, hx1, hx1', v1⟩
  obtain ⟨p1, hp1⟩ : ∃ p1 : Option Addr, p1 = some ⟨X1, 0, none⟩ := ⟨_, rfl⟩
  rw [← hp1] at v1 ⊢
  have HV1 := Lib.hid v1
  have HV0 := Lib.hid (HV0.out.below bc)
  have y0 := (bc.cell (p := ⟨nz, 0, none⟩) hNb).trans y0
  have y1 := (bc.cell (p := ⟨nz, 1, none⟩) hNb).trans y1
  have hNc := Nat.lt_of_lt_of_le hNb bc.size
  have HBz := Lib.hid (HBz.out.trans (bc.mono HBz.out.size))
  clear bc hx1 hx1' v1 hp1 hNb
  go_wp2_with fail
  refine (HNV.out Wc 13 (by decide) (by decide) (by unfold vcTab; omega)).mono ?_
  rintro e Wd ⟨X2, rfl, bd, hx2, hx2', v2⟩
  obtain ⟨p2, hp2⟩ : ∃ p2 : Option Addr, p2 = some ⟨X2, 0, none⟩ := ⟨_, rfl⟩
  rw [← hp2] at v2 ⊢
  have HV2 := Lib.hid v2
  have HV1 := Lib.hid (HV1.out.below bd)
  have HV0 := Lib.hid (HV0.out.below bd)
  have y0 := (bd.cell (p := ⟨nz, 0, none⟩) hNc).trans y0
  have y1 := (bd.cell (p := ⟨nz, 1, none⟩) hNc).trans y1
  have hNd := Nat.lt_of_lt_of_le hNc bd.size
  have HBz := Lib.hid (HBz.out.trans (bd.mono HBz.out.size))
  clear bd hx2 hx2' v2 hp2 hNc
  have hT : vcTab bits ∨ ¬ vcTab bits := Decidable.em _
  rcases hT with hT | hT
  · unfold vcTab at hT
    have d1 : decide (bits < 1) = false := by simp; omega
    have d2 : decide (12 < bits) = false := by simp; omega

    go_upto_region 7 with fail
    obtain ⟨Wy, hWy⟩ : ∃ Wy, Wy = Wd.alloc (.cells #[.pointer p0, .pointer none, .pointer p1, .pointer p2] 80) := ⟨_, rfl⟩
    have by5 : Below Wd.heap.size Wd Wy := by rw [hWy]; exact (Below.refl _ _).alloc (Nat.le_refl _) _
    have hNy : nz < Wy.heap.size := Nat.lt_of_lt_of_le hNd by5.size
    have hby : Wd.heap.size < Wy.heap.size := by rw [hWy]; simp
    have y0 := (by5.cell (p := ⟨nz, 0, none⟩) hNd).trans y0
    have y1 := (by5.cell (p := ⟨nz, 1, none⟩) hNd).trans y1

    have l0 : Wy.cell? ⟨Wd.heap.size, 0, none⟩ = some (.pointer p0) := by rw [hWy]; simp
    have l1 : Wy.cell? ⟨Wd.heap.size, 1, none⟩ = some (.pointer none) := by rw [hWy]; simp
    have l2 : Wy.cell? ⟨Wd.heap.size, 2, none⟩ = some (.pointer p1) := by rw [hWy]; simp
    have l3 : Wy.cell? ⟨Wd.heap.size, 3, none⟩ = some (.pointer p2) := by rw [hWy]; simp
    have HVz : Hid (∀ j, j < 4 → ∃ v, Wy.cell? ⟨Wd.heap.size, j, none⟩ = some v ∧ VoidV Wy v) := Lib.hid fun j hj => by
      rcases (show j = 0 ∨ j = 1 ∨ j = 2 ∨ j = 3 by omega) with rfl | rfl | rfl | rfl
      · exact ⟨_, l0, HV0.out.below by5⟩
      · exact ⟨_, l1, .inl rfl⟩
      · exact ⟨_, l2, HV1.out.below by5⟩
      · exact ⟨_, l3, HV2.out.below by5⟩
    have HBz := Lib.hid (HBz.out.trans (by5.mono HBz.out.size))
    rw [← hWy]
    clear hWy l0 l1 l2 l3 by5 HV0 HV1 HV2 hNd
    obtain ⟨nl, hnl⟩ : ∃ nl, nl = Wd.heap.size := ⟨_, rfl⟩
    rw [← hnl] at HVz hby ⊢
    clear hnl
    go_wp2_with fail
    go_loopw [9] (fun i wr => ∃ k : Nat, k ≤ 4 ∧ i = .int .i64 k ∧ Below Wy.heap.size Wy wr)
      (fun i _ => 4 - (intOf i).toNat)
    case atStart => exact ⟨0, Nat.zero_le _, rfl, Below.refl _ _⟩
    case round =>
      obtain ⟨k, hk, rfl, hb⟩ := hrel
      have HBr := Lib.hid hb
      have x0 := (hb.cell (p := ⟨nz, 0, none⟩) hNy).trans y0
      have x1 := (hb.cell (p := ⟨nz, 1, none⟩) hNy).trans y1
      have hNr : nz < wr.heap.size := Nat.lt_of_lt_of_le hNy hb.size
      by_cases hk2 : k < 4
      · obtain ⟨v, hvc, hvv⟩ := HVz.out k hk2
        have lc := (hb.cell (p := ⟨nl, k, none⟩) hby).trans hvc
        have HV := Lib.hid (hvv.below hb)
        obtain ⟨a, rfl⟩ := hvv.ptr
        have hbr : nl < wr.heap.size := Nat.lt_of_lt_of_le hby hb.size
        have hki : (k : Int) < 4 := by omega
        clear hvc hvv hb y0 y1
        go_wp2_with fail
        refine (c_vvoid_got HV.out).mono ?_
        rintro e w2 ⟨rfl, hb2⟩
        have V2 := Lib.hid (HV.out.below hb2)
        have z0 := (hb2.cell (p := ⟨nz, 0, none⟩) hNr).trans x0
        have zc := (hb2.cell (p := ⟨nl, k, none⟩) hbr).trans lc
        have HB2 := Lib.hid (HBr.out.trans (hb2.mono HBr.out.size))
        have hN2 : nz < w2.heap.size := Nat.lt_of_lt_of_le hNr hb2.size
        have hb2r : nl < w2.heap.size := Nat.lt_of_lt_of_le hbr hb2.size
        clear hb2 x0 x1 lc HV
        go_upto_region 11 with fail
        obtain ⟨W3, hW3⟩ : ∃ W3, W3 = w2.alloc (.cells #[.int .i64 0, .int .i64 0, .int .i64 0] 45) := ⟨_, rfl⟩
        have b3 : Below w2.heap.size w2 W3 := by rw [hW3]; exact (Below.refl _ _).alloc (Nat.le_refl _) _
        have V3 := Lib.hid (V2.out.below b3)
        have x0 := (b3.cell (p := ⟨nz, 0, none⟩) hN2).trans z0
        have xc := (b3.cell (p := ⟨nl, k, none⟩) hb2r).trans zc
        have HB3 := Lib.hid (HB2.out.trans (b3.mono HB2.out.size))
        have hN3 : nz < W3.heap.size := Nat.lt_of_lt_of_le hN2 b3.size
        have hb3r : nl < W3.heap.size := Nat.lt_of_lt_of_le hb2r b3.size
        rw [← hW3]
        clear hW3 b3 z0 zc hN2 hb2r hNr hbr V2
        have HVv := Lib.hid (fun e => V3.out.below (via_below W3 e))
        refine wp_region_via (by kernel_rfl) (by kernel_rfl) ?_
        repeat (go_big_quiet_step ((first
          | (go_at_call 47; exact viaS (c_vvoid_over (HVv.out _)))
          | (go_at_call 68; exact viaS (c_vvoid_step _ (HVv.out _))))))
        refine wpQuiet_nil ?_
        rintro _ ⟨e, rfl⟩
        have HB4 := Lib.hid (HB3.out.trans ((via_below W3 e).mono HB3.out.size))
        go_wp2_with fail
        go_roundw
        case rel => exact ⟨k + 1, by omega, by go_num, HB4.out⟩
        case measure => simp [intOf]; omega
      · obtain rfl : k = 4 := by omega
        have HB9 : Hid (Below w1.heap.size w1 wr) := Lib.hid (HBz.out.trans (hb.mono HBz.out.size))
        clear hb y0 y1 HBr
        go_wp2_with fail
        refine (HNW.out wr).mono ?_
        rintro e W8 ⟨X, dv, rfl, hb8, hX0, hX1, c1, c3, -, hdv⟩
        obtain ⟨fv, av, cv, rfl⟩ := hdv (by unfold vcTab; omega)
        have HO := Lib.hid (c_VOver X (.func fv av cv) W8 c1 false (.inr ⟨_, _, _, rfl, rfl⟩))
        have HS := Lib.hid (c_VcStepN c1 ⟨_, _, _, rfl⟩)
        have HG := Lib.hid (c_vgot0 c3)
        have HB8 : Hid (Below w1.heap.size w1 W8) := Lib.hid (HB9.out.trans (hb8.mono HB9.out.size))
        have z0 := (hb8.cell (p := ⟨nz, 0, none⟩) hNr).trans x0
        have z1 := (hb8.cell (p := ⟨nz, 1, none⟩) hNr).trans x1
        have hN8 := Nat.lt_of_lt_of_le hNr hb8.size
        clear hb8 x0 x1 c1 c3 hX0 hX1 hdv
        go_wp2_with fail
        refine HS.out.mono ?_
        rintro e w' ⟨rfl, rfl⟩
        go_wp2_with fail
        refine HO.out.mono ?_
        rintro e w' ⟨rfl, rfl⟩
        go_wp2_with fail
        refine HG.out.mono ?_
        rintro e Wf ⟨rfl, hbf⟩
        have HBf : Hid (Below w1.heap.size w1 Wf) := Lib.hid (HB8.out.trans (hbf.mono HB8.out.size))
        have z0 := (hbf.cell (p := ⟨nz, 0, none⟩) hN8).trans z0
        have z1 := (hbf.cell (p := ⟨nz, 1, none⟩) hN8).trans z1
        have hNf := Nat.lt_of_lt_of_le hN8 hbf.size
        clear hbf
        go_upto_region 16 with fail
        obtain ⟨Wg, hWg⟩ : ∃ Wg, Wg = Wf.alloc (.cells #[.int .i64 0, .int .i64 0, .int .i64 0] 45) := ⟨_, rfl⟩
        have bg : Below Wf.heap.size Wf Wg := by rw [hWg]; exact (Below.refl _ _).alloc (Nat.le_refl _) _
        have z0 := (bg.cell (p := ⟨nz, 0, none⟩) hNf).trans z0
        have z1 := (bg.cell (p := ⟨nz, 1, none⟩) hNf).trans z1
        have HBg2 : Hid (Below w1.heap.size w1 Wg) := Lib.hid (HBf.out.trans (bg.mono HBf.out.size))
        rw [← hWg]
        clear hWg bg hNf hN8 hNr
        go_wp2_with fail
        refine (c_PSameAll (HP.out.below HH.out HBg2.out) (fun j hj => Nat.lt_of_lt_of_le (HH.out j hj) HBg2.out.size) (by omega) HNt.out (by rw [HIt.out]; decide)).mono ?_
        rintro e W9 ⟨rfl, hb9⟩
        have HB9 : Hid (Below w1.heap.size w1 W9) := Lib.hid (HBg2.out.trans (hb9.mono HBg2.out.size))
        clear hb9 z0 z1
        go_wp2_with fail
        refine (c_lives24 W9).mono ?_
        rintro e W10 ⟨rfl, hb10⟩
        go_wp2_with fail
        go_ret
        exact ⟨rfl, HB.out.trans ((HB9.out.trans (hb10.mono HB9.out.size)).mono HB.out.size)⟩
  · have HT := Lib.hid hT
    have HD : Hid (decide (bits < 1) = true ∨ (decide (bits < 1) = false ∧ decide (12 < bits) = true)) := Lib.hid (by unfold vcTab at hT; simp; omega)
    clear hT

    go_upto_region 5 with fail
    obtain ⟨Wy, hWy⟩ : ∃ Wy, Wy = Wd.alloc (.cells #[.pointer p0, .pointer none, .pointer p1, .pointer p2] 80) := ⟨_, rfl⟩
    have by5 : Below Wd.heap.size Wd Wy := by rw [hWy]; exact (Below.refl _ _).alloc (Nat.le_refl _) _
    have hNy : nz < Wy.heap.size := Nat.lt_of_lt_of_le hNd by5.size
    have hby : Wd.heap.size < Wy.heap.size := by rw [hWy]; simp
    have y0 := (by5.cell (p := ⟨nz, 0, none⟩) hNd).trans y0
    have y1 := (by5.cell (p := ⟨nz, 1, none⟩) hNd).trans y1

    have hown : Wy.ownsRow Wd.heap.size 80 1 (.slice (some ⟨Wd.heap.size, 0, none⟩) 4 4) 4 [.pointer p0, .pointer none, .pointer p1, .pointer p2] := by
      rw [hWy]
      exact ⟨rfl, .inr ⟨_, 4, #[.pointer p0, .pointer none, .pointer p1, .pointer p2], rfl, Nat.le_refl _, heap_alloc_new _ _, by decide, by unfold maxLen; decide, rfl, rfl⟩⟩
    have HL0 := Lib.hid HV0.out
    have HL1 := Lib.hid HV1.out
    have HL2 := Lib.hid HV2.out
    have HV0 := Lib.hid (HV0.out.below by5)
    have HV1 := Lib.hid (HV1.out.below by5)
    have HV2 := Lib.hid (HV2.out.below by5)
    have HBy := Lib.hid (HBz.out.trans (by5.mono HBz.out.size))
    rw [← hWy]
    clear hWy by5
    obtain ⟨bz, hbz⟩ : ∃ bz, bz = Wd.heap.size := ⟨_, rfl⟩
    rw [← hbz] at hown hby ⊢
    have HBe := Lib.hid hbz
    have HOw := Lib.hid hown
    have hNz0 : nz < bz := by omega
    clear hbz hown
    rcases HD.out with d1 | ⟨d1, d2⟩
    · clear HD
      go_wp2_with fail
      refine (HNX.out HT.out Wy).mono ?_
      rintro e W6 ⟨X4, rfl, b6, hx4, hx4', v4⟩
      have hown6 := Lib.hid (ownsRow_below HOw.out b6)
      have y0 := (b6.cell (p := ⟨nz, 0, none⟩) hNy).trans y0
      have y1 := (b6.cell (p := ⟨nz, 1, none⟩) hNy).trans y1
      have hN6 := Nat.lt_of_lt_of_le hNy b6.size
      have HB6 := Lib.hid (HBy.out.trans (b6.mono HBy.out.size))
      have U := Lib.hid (fun v (h : VoidV Wy v) => h.below b6)
      have U4 := Lib.hid v4
      have hb6 : bz ≤ W6.heap.size := by have := b6.size; omega
      obtain ⟨p4, hp4⟩ : ∃ p4 : Option Addr, p4 = some ⟨X4, 0, none⟩ := ⟨_, rfl⟩
      have HP4 := Lib.hid hp4
      have HT4 : Hid (bz < X4) := Lib.hid (by omega)
      rw [← hp4] at U4
      rw [← hp4]
      clear b6 v4 hp4 hNy hx4 hx4' hby
      obtain ⟨i0, hi, hi0, hi1, hi2⟩ := info_parts infoVpt
      go_wp2_with (at_builtin; refine append_one W6 rfl _ _ 149 rfl bz 80 i0 _ 1 8 Tryz.underlying149 hi hi0 hi1 hi2 rfl (by decide) (by decide) (.slice (some ⟨bz, 0, none⟩) 4 4) 4 [.pointer p0, .pointer none, .pointer p1, .pointer p2] rfl hown6.out [.pointer p4] _ rfl rfl (by simp [Value.oneCell']) (by decide) hb6 ?_; intro gg cap Wz hownz hgr; have HOz := Lib.hid hownz; have HGr := Lib.hid hgr; clear hownz hgr)
      have hWr : Hid (Wrote (fun k => k = bz) W6 Wz) := Lib.hid ((Wrote.refl _ _).grown HGr.out fun k hk _ => by cases hk; rfl)
      have y0 := (hWr.out.cell (p := ⟨nz, 0, none⟩) hN6 (by show ¬ nz = bz; omega)).trans y0
      have y1 := (hWr.out.cell (p := ⟨nz, 1, none⟩) hN6 (by show ¬ nz = bz; omega)).trans y1
      have hNy : nz < Wz.heap.size := Nat.lt_of_lt_of_le hN6 hWr.out.size
      obtain ⟨nl, hnl⟩ : ∃ b', b' = gg := ⟨_, rfl⟩
      subst hnl
      have hby := (HOz.out.lt nl rfl).2
      have HBz : Hid (Below w1.heap.size w1 Wz) := Lib.hid (HB6.out.trans (hWr.out.below (fun k _ hk => by rw [hk]; have := HNZ.out; omega) (by have := HB6.out.size; omega)))
      have hcs := fun j u hj => HOz.out.cells (g := nl) rfl j u hj
      have hadd : ∀ j, (⟨nl, 0, none⟩ : Addr).add j = ⟨nl, j, none⟩ := fun j => by unfold Addr.add; split <;> simp_all
      have hvw : ∀ v, VoidV W6 v → (∀ b, v = .pointer (some ⟨b, 0, none⟩) → b ≠ bz) → VoidV Wz v := fun v h hn => by
        rcases h with h | ⟨b, h1, h2, h3⟩
        · exact .inl h
        · exact .inr ⟨b, h1, (hWr.out.cell (p := ⟨b, 1, none⟩) (blk_lt h2) (hn b h1)).trans h2, (hWr.out.cell (p := ⟨b, 3, none⟩) (blk_lt h3) (hn b h1)).trans h3⟩
      have hw5 : ∀ p, VoidV Wd (.pointer p) → VoidV Wy (.pointer p) → VoidV Wz (.pointer p) := fun p h h' => hvw _ (U.out _ h') fun b hb => by
        rcases h with h | ⟨b2, h1, h2, -⟩
        · rw [h] at hb; cases hb
        · rw [h1] at hb; cases hb; have := blk_lt h2; rw [HBe.out]; dsimp only at this; omega
      have HVz : Hid (∀ k, k < 5 → ∃ v, Wz.cell? ⟨nl, k, none⟩ = some v ∧ VoidV Wz v) := Lib.hid fun k hk => by
        rcases (show k = 0 ∨ k = 1 ∨ k = 2 ∨ k = 3 ∨ k = 4 by omega) with rfl | rfl | rfl | rfl | rfl
        · exact ⟨_, by rw [← hadd]; exact hcs 0 _ rfl, hw5 _ HL0.out HV0.out⟩
        · exact ⟨_, by rw [← hadd]; exact hcs 1 _ rfl, .inl rfl⟩
        · exact ⟨_, by rw [← hadd]; exact hcs 2 _ rfl, hw5 _ HL1.out HV1.out⟩
        · exact ⟨_, by rw [← hadd]; exact hcs 3 _ rfl, hw5 _ HL2.out HV2.out⟩
        · exact ⟨_, by rw [← hadd]; exact hcs 4 _ rfl, hvw _ U4.out fun b hb => by rw [HP4.out] at hb; cases hb; have := HT4.out; omega⟩
      clear hcs hadd hvw hw5 hN6 hb6

      go_loopw [9] (fun i wr => ∃ k : Nat, k ≤ 5 ∧ i = .int .i64 k ∧ Below Wz.heap.size Wz wr)
        (fun i _ => 5 - (intOf i).toNat)
      case atStart => exact ⟨0, Nat.zero_le _, rfl, Below.refl _ _⟩
      case round =>
        obtain ⟨k, hk, rfl, hb⟩ := hrel
        have HBr := Lib.hid hb
        have x0 := (hb.cell (p := ⟨nz, 0, none⟩) hNy).trans y0
        have x1 := (hb.cell (p := ⟨nz, 1, none⟩) hNy).trans y1
        have hNr : nz < wr.heap.size := Nat.lt_of_lt_of_le hNy hb.size
        by_cases hk2 : k < 5
        · obtain ⟨v, hvc, hvv⟩ := HVz.out k hk2
          have lc := (hb.cell (p := ⟨nl, k, none⟩) hby).trans hvc
          have HV := Lib.hid (hvv.below hb)
          obtain ⟨a, rfl⟩ := hvv.ptr
          have hbr : nl < wr.heap.size := Nat.lt_of_lt_of_le hby hb.size
          have hki : (k : Int) < 5 := by omega
          clear hvc hvv hb y0 y1
          go_wp2_with fail
          refine (c_vvoid_got HV.out).mono ?_
          rintro e w2 ⟨rfl, hb2⟩
          have V2 := Lib.hid (HV.out.below hb2)
          have z0 := (hb2.cell (p := ⟨nz, 0, none⟩) hNr).trans x0
          have zc := (hb2.cell (p := ⟨nl, k, none⟩) hbr).trans lc
          have HB2 := Lib.hid (HBr.out.trans (hb2.mono HBr.out.size))
          have hN2 : nz < w2.heap.size := Nat.lt_of_lt_of_le hNr hb2.size
          have hb2r : nl < w2.heap.size := Nat.lt_of_lt_of_le hbr hb2.size
          clear hb2 x0 x1 lc HV
          go_upto_region 11 with fail
          obtain ⟨W3, hW3⟩ : ∃ W3, W3 = w2.alloc (.cells #[.int .i64 0, .int .i64 0, .int .i64 0] 45) := ⟨_, rfl⟩
          have b3 : Below w2.heap.size w2 W3 := by rw [hW3]; exact (Below.refl _ _).alloc (Nat.le_refl _) _
          have V3 := Lib.hid (V2.out.below b3)
          have x0 := (b3.cell (p := ⟨nz, 0, none⟩) hN2).trans z0
          have xc := (b3.cell (p := ⟨nl, k, none⟩) hb2r).trans zc
          have HB3 := Lib.hid (HB2.out.trans (b3.mono HB2.out.size))
          have hN3 : nz < W3.heap.size := Nat.lt_of_lt_of_le hN2 b3.size
          have hb3r : nl < W3.heap.size := Nat.lt_of_lt_of_le hb2r b3.size
          rw [← hW3]
          clear hW3 b3 z0 zc hN2 hb2r hNr hbr V2
          have HVv := Lib.hid (fun e => V3.out.below (via_below W3 e))
          refine wp_region_via (by kernel_rfl) (by kernel_rfl) ?_
          repeat (go_big_quiet_step ((first
            | (go_at_call 47; exact viaS (c_vvoid_over (HVv.out _)))
            | (go_at_call 68; exact viaS (c_vvoid_step _ (HVv.out _))))))
          refine wpQuiet_nil ?_
          rintro _ ⟨e, rfl⟩
          have HB4 := Lib.hid (HB3.out.trans ((via_below W3 e).mono HB3.out.size))
          go_wp2_with fail
          go_roundw
          case rel => exact ⟨k + 1, by omega, by go_num, HB4.out⟩
          case measure => simp [intOf]; omega
        · obtain rfl : k = 5 := by omega
          have HB9 : Hid (Below w1.heap.size w1 wr) := Lib.hid (HBz.out.trans (hb.mono HBz.out.size))
          clear hb y0 y1 HBr
          go_wp2_with fail
          refine (HNW.out wr).mono ?_
          rintro e W8 ⟨X, dv, rfl, hb8, hX0, hX1, c1, c3, -, hdv⟩
          obtain ⟨fv, av, cv, rfl⟩ := hdv (by unfold vcTab; omega)
          have HO := Lib.hid (c_VOver X (.func fv av cv) W8 c1 false (.inr ⟨_, _, _, rfl, rfl⟩))
          have HS := Lib.hid (c_VcStepN c1 ⟨_, _, _, rfl⟩)
          have HG := Lib.hid (c_vgot0 c3)
          have HB8 : Hid (Below w1.heap.size w1 W8) := Lib.hid (HB9.out.trans (hb8.mono HB9.out.size))
          have z0 := (hb8.cell (p := ⟨nz, 0, none⟩) hNr).trans x0
          have z1 := (hb8.cell (p := ⟨nz, 1, none⟩) hNr).trans x1
          have hN8 := Nat.lt_of_lt_of_le hNr hb8.size
          clear hb8 x0 x1 c1 c3 hX0 hX1 hdv
          go_wp2_with fail
          refine HS.out.mono ?_
          rintro e w' ⟨rfl, rfl⟩
          go_wp2_with fail
          refine HO.out.mono ?_
          rintro e w' ⟨rfl, rfl⟩
          go_wp2_with fail
          refine HG.out.mono ?_
          rintro e Wf ⟨rfl, hbf⟩
          have HBf : Hid (Below w1.heap.size w1 Wf) := Lib.hid (HB8.out.trans (hbf.mono HB8.out.size))
          have z0 := (hbf.cell (p := ⟨nz, 0, none⟩) hN8).trans z0
          have z1 := (hbf.cell (p := ⟨nz, 1, none⟩) hN8).trans z1
          have hNf := Nat.lt_of_lt_of_le hN8 hbf.size
          clear hbf
          go_upto_region 16 with fail
          obtain ⟨Wg, hWg⟩ : ∃ Wg, Wg = Wf.alloc (.cells #[.int .i64 0, .int .i64 0, .int .i64 0] 45) := ⟨_, rfl⟩
          have bg : Below Wf.heap.size Wf Wg := by rw [hWg]; exact (Below.refl _ _).alloc (Nat.le_refl _) _
          have z0 := (bg.cell (p := ⟨nz, 0, none⟩) hNf).trans z0
          have z1 := (bg.cell (p := ⟨nz, 1, none⟩) hNf).trans z1
          have HBg2 : Hid (Below w1.heap.size w1 Wg) := Lib.hid (HBf.out.trans (bg.mono HBf.out.size))
          rw [← hWg]
          clear hWg bg hNf hN8 hNr
          go_wp2_with fail
          refine (c_PSameAll (HP.out.below HH.out HBg2.out) (fun j hj => Nat.lt_of_lt_of_le (HH.out j hj) HBg2.out.size) (by omega) HNt.out (by rw [HIt.out]; decide)).mono ?_
          rintro e W9 ⟨rfl, hb9⟩
          have HB9 : Hid (Below w1.heap.size w1 W9) := Lib.hid (HBg2.out.trans (hb9.mono HBg2.out.size))
          clear hb9 z0 z1
          go_wp2_with fail
          refine (c_lives24 W9).mono ?_
          rintro e W10 ⟨rfl, hb10⟩
          go_wp2_with fail
          go_ret
          exact ⟨rfl, HB.out.trans ((HB9.out.trans (hb10.mono HB9.out.size)).mono HB.out.size)⟩
    · clear HD
      go_wp2_with fail
      refine (HNX.out HT.out Wy).mono ?_
      rintro e W6 ⟨X4, rfl, b6, hx4, hx4', v4⟩
      have hown6 := Lib.hid (ownsRow_below HOw.out b6)
      have y0 := (b6.cell (p := ⟨nz, 0, none⟩) hNy).trans y0
      have y1 := (b6.cell (p := ⟨nz, 1, none⟩) hNy).trans y1
      have hN6 := Nat.lt_of_lt_of_le hNy b6.size
      have HB6 := Lib.hid (HBy.out.trans (b6.mono HBy.out.size))
      have U := Lib.hid (fun v (h : VoidV Wy v) => h.below b6)
      have U4 := Lib.hid v4
      have hb6 : bz ≤ W6.heap.size := by have := b6.size; omega
      obtain ⟨p4, hp4⟩ : ∃ p4 : Option Addr, p4 = some ⟨X4, 0, none⟩ := ⟨_, rfl⟩
      have HP4 := Lib.hid hp4
      have HT4 : Hid (bz < X4) := Lib.hid (by omega)
      rw [← hp4] at U4
      rw [← hp4]
      clear b6 v4 hp4 hNy hx4 hx4' hby
      obtain ⟨i0, hi, hi0, hi1, hi2⟩ := info_parts infoVpt
      go_wp2_with (at_builtin; refine append_one W6 rfl _ _ 149 rfl bz 80 i0 _ 1 8 Tryz.underlying149 hi hi0 hi1 hi2 rfl (by decide) (by decide) (.slice (some ⟨bz, 0, none⟩) 4 4) 4 [.pointer p0, .pointer none, .pointer p1, .pointer p2] rfl hown6.out [.pointer p4] _ rfl rfl (by simp [Value.oneCell']) (by decide) hb6 ?_; intro gg cap Wz hownz hgr; have HOz := Lib.hid hownz; have HGr := Lib.hid hgr; clear hownz hgr)
      have hWr : Hid (Wrote (fun k => k = bz) W6 Wz) := Lib.hid ((Wrote.refl _ _).grown HGr.out fun k hk _ => by cases hk; rfl)
      have y0 := (hWr.out.cell (p := ⟨nz, 0, none⟩) hN6 (by show ¬ nz = bz; omega)).trans y0
      have y1 := (hWr.out.cell (p := ⟨nz, 1, none⟩) hN6 (by show ¬ nz = bz; omega)).trans y1
      have hNy : nz < Wz.heap.size := Nat.lt_of_lt_of_le hN6 hWr.out.size
      obtain ⟨nl, hnl⟩ : ∃ b', b' = gg := ⟨_, rfl⟩
      subst hnl
      have hby := (HOz.out.lt nl rfl).2
      have HBz : Hid (Below w1.heap.size w1 Wz) := Lib.hid (HB6.out.trans (hWr.out.below (fun k _ hk => by rw [hk]; have := HNZ.out; omega) (by have := HB6.out.size; omega)))
      have hcs := fun j u hj => HOz.out.cells (g := nl) rfl j u hj
      have hadd : ∀ j, (⟨nl, 0, none⟩ : Addr).add j = ⟨nl, j, none⟩ := fun j => by unfold Addr.add; split <;> simp_all
      have hvw : ∀ v, VoidV W6 v → (∀ b, v = .pointer (some ⟨b, 0, none⟩) → b ≠ bz) → VoidV Wz v := fun v h hn => by
        rcases h with h | ⟨b, h1, h2, h3⟩
        · exact .inl h
        · exact .inr ⟨b, h1, (hWr.out.cell (p := ⟨b, 1, none⟩) (blk_lt h2) (hn b h1)).trans h2, (hWr.out.cell (p := ⟨b, 3, none⟩) (blk_lt h3) (hn b h1)).trans h3⟩
      have hw5 : ∀ p, VoidV Wd (.pointer p) → VoidV Wy (.pointer p) → VoidV Wz (.pointer p) := fun p h h' => hvw _ (U.out _ h') fun b hb => by
        rcases h with h | ⟨b2, h1, h2, -⟩
        · rw [h] at hb; cases hb
        · rw [h1] at hb; cases hb; have := blk_lt h2; rw [HBe.out]; dsimp only at this; omega
      have HVz : Hid (∀ k, k < 5 → ∃ v, Wz.cell? ⟨nl, k, none⟩ = some v ∧ VoidV Wz v) := Lib.hid fun k hk => by
        rcases (show k = 0 ∨ k = 1 ∨ k = 2 ∨ k = 3 ∨ k = 4 by omega) with rfl | rfl | rfl | rfl | rfl
        · exact ⟨_, by rw [← hadd]; exact hcs 0 _ rfl, hw5 _ HL0.out HV0.out⟩
        · exact ⟨_, by rw [← hadd]; exact hcs 1 _ rfl, .inl rfl⟩
        · exact ⟨_, by rw [← hadd]; exact hcs 2 _ rfl, hw5 _ HL1.out HV1.out⟩
        · exact ⟨_, by rw [← hadd]; exact hcs 3 _ rfl, hw5 _ HL2.out HV2.out⟩
        · exact ⟨_, by rw [← hadd]; exact hcs 4 _ rfl, hvw _ U4.out fun b hb => by rw [HP4.out] at hb; cases hb; have := HT4.out; omega⟩
      clear hcs hadd hvw hw5 hN6 hb6

      go_loopw [9] (fun i wr => ∃ k : Nat, k ≤ 5 ∧ i = .int .i64 k ∧ Below Wz.heap.size Wz wr)
        (fun i _ => 5 - (intOf i).toNat)
      case atStart => exact ⟨0, Nat.zero_le _, rfl, Below.refl _ _⟩
      case round =>
        obtain ⟨k, hk, rfl, hb⟩ := hrel
        have HBr := Lib.hid hb
        have x0 := (hb.cell (p := ⟨nz, 0, none⟩) hNy).trans y0
        have x1 := (hb.cell (p := ⟨nz, 1, none⟩) hNy).trans y1
        have hNr : nz < wr.heap.size := Nat.lt_of_lt_of_le hNy hb.size
        by_cases hk2 : k < 5
        · obtain ⟨v, hvc, hvv⟩ := HVz.out k hk2
          have lc := (hb.cell (p := ⟨nl, k, none⟩) hby).trans hvc
          have HV := Lib.hid (hvv.below hb)
          obtain ⟨a, rfl⟩ := hvv.ptr
          have hbr : nl < wr.heap.size := Nat.lt_of_lt_of_le hby hb.size
          have hki : (k : Int) < 5 := by omega
          clear hvc hvv hb y0 y1
          go_wp2_with fail
          refine (c_vvoid_got HV.out).mono ?_
          rintro e w2 ⟨rfl, hb2⟩
          have V2 := Lib.hid (HV.out.below hb2)
          have z0 := (hb2.cell (p := ⟨nz, 0, none⟩) hNr).trans x0
          have zc := (hb2.cell (p := ⟨nl, k, none⟩) hbr).trans lc
          have HB2 := Lib.hid (HBr.out.trans (hb2.mono HBr.out.size))
          have hN2 : nz < w2.heap.size := Nat.lt_of_lt_of_le hNr hb2.size
          have hb2r : nl < w2.heap.size := Nat.lt_of_lt_of_le hbr hb2.size
          clear hb2 x0 x1 lc HV
          go_upto_region 11 with fail
          obtain ⟨W3, hW3⟩ : ∃ W3, W3 = w2.alloc (.cells #[.int .i64 0, .int .i64 0, .int .i64 0] 45) := ⟨_, rfl⟩
          have b3 : Below w2.heap.size w2 W3 := by rw [hW3]; exact (Below.refl _ _).alloc (Nat.le_refl _) _
          have V3 := Lib.hid (V2.out.below b3)
          have x0 := (b3.cell (p := ⟨nz, 0, none⟩) hN2).trans z0
          have xc := (b3.cell (p := ⟨nl, k, none⟩) hb2r).trans zc
          have HB3 := Lib.hid (HB2.out.trans (b3.mono HB2.out.size))
          have hN3 : nz < W3.heap.size := Nat.lt_of_lt_of_le hN2 b3.size
          have hb3r : nl < W3.heap.size := Nat.lt_of_lt_of_le hb2r b3.size
          rw [← hW3]
          clear hW3 b3 z0 zc hN2 hb2r hNr hbr V2
          have HVv := Lib.hid (fun e => V3.out.below (via_below W3 e))
          refine wp_region_via (by kernel_rfl) (by kernel_rfl) ?_
          repeat (go_big_quiet_step ((first
            | (go_at_call 47; exact viaS (c_vvoid_over (HVv.out _)))
            | (go_at_call 68; exact viaS (c_vvoid_step _ (HVv.out _))))))
          refine wpQuiet_nil ?_
          rintro _ ⟨e, rfl⟩
          have HB4 := Lib.hid (HB3.out.trans ((via_below W3 e).mono HB3.out.size))
          go_wp2_with fail
          go_roundw
          case rel => exact ⟨k + 1, by omega, by go_num, HB4.out⟩
          case measure => simp [intOf]; omega
        · obtain rfl : k = 5 := by omega
          have HB9 : Hid (Below w1.heap.size w1 wr) := Lib.hid (HBz.out.trans (hb.mono HBz.out.size))
          clear hb y0 y1 HBr
          go_wp2_with fail
          refine (HNW.out wr).mono ?_
          rintro e W8 ⟨X, dv, rfl, hb8, hX0, hX1, c1, c3, -, hdv⟩
          obtain ⟨fv, av, cv, rfl⟩ := hdv (by unfold vcTab; omega)
          have HO := Lib.hid (c_VOver X (.func fv av cv) W8 c1 false (.inr ⟨_, _, _, rfl, rfl⟩))
          have HS := Lib.hid (c_VcStepN c1 ⟨_, _, _, rfl⟩)
          have HG := Lib.hid (c_vgot0 c3)
          have HB8 : Hid (Below w1.heap.size w1 W8) := Lib.hid (HB9.out.trans (hb8.mono HB9.out.size))
          have z0 := (hb8.cell (p := ⟨nz, 0, none⟩) hNr).trans x0
          have z1 := (hb8.cell (p := ⟨nz, 1, none⟩) hNr).trans x1
          have hN8 := Nat.lt_of_lt_of_le hNr hb8.size
          clear hb8 x0 x1 c1 c3 hX0 hX1 hdv
          go_wp2_with fail
          refine HS.out.mono ?_
          rintro e w' ⟨rfl, rfl⟩
          go_wp2_with fail
          refine HO.out.mono ?_
          rintro e w' ⟨rfl, rfl⟩
          go_wp2_with fail
          refine HG.out.mono ?_
          rintro e Wf ⟨rfl, hbf⟩
          have HBf : Hid (Below w1.heap.size w1 Wf) := Lib.hid (HB8.out.trans (hbf.mono HB8.out.size))
          have z0 := (hbf.cell (p := ⟨nz, 0, none⟩) hN8).trans z0
          have z1 := (hbf.cell (p := ⟨nz, 1, none⟩) hN8).trans z1
          have hNf := Nat.lt_of_lt_of_le hN8 hbf.size
          clear hbf
          go_upto_region 16 with fail
          obtain ⟨Wg, hWg⟩ : ∃ Wg, Wg = Wf.alloc (.cells #[.int .i64 0, .int .i64 0, .int .i64 0] 45) := ⟨_, rfl⟩
          have bg : Below Wf.heap.size Wf Wg := by rw [hWg]; exact (Below.refl _ _).alloc (Nat.le_refl _) _
          have z0 := (bg.cell (p := ⟨nz, 0, none⟩) hNf).trans z0
          have z1 := (bg.cell (p := ⟨nz, 1, none⟩) hNf).trans z1
          have HBg2 : Hid (Below w1.heap.size w1 Wg) := Lib.hid (HBf.out.trans (bg.mono HBf.out.size))
          rw [← hWg]
          clear hWg bg hNf hN8 hNr
          go_wp2_with fail
          refine (c_PSameAll (HP.out.below HH.out HBg2.out) (fun j hj => Nat.lt_of_lt_of_le (HH.out j hj) HBg2.out.size) (by omega) HNt.out (by rw [HIt.out]; decide)).mono ?_
          rintro e W9 ⟨rfl, hb9⟩
          have HB9 : Hid (Below w1.heap.size w1 W9) := Lib.hid (HBg2.out.trans (hb9.mono HBg2.out.size))
          clear hb9 z0 z1
          go_wp2_with fail
          refine (c_lives24 W9).mono ?_
          rintro e W10 ⟨rfl, hb10⟩
          go_wp2_with fail
          go_ret
          exact ⟨rfl, HB.out.trans ((HB9.out.trans (hb10.mono HB9.out.size)).mono HB.out.size)⟩
end Go.Proofs.YtlcibfpibklbdaaGreat
