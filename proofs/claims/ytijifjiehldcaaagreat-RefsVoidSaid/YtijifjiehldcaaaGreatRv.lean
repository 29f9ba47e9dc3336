/- Layer 22: RefsVoid. -/
import Derived.Test.YtijifjiehldcaaaGreatBg
import Derived.Test.YtijifjiehldcaaaGreatSb
import Derived.Test.YtijifjiehldcaaaGreatRfLives
namespace Go.Proofs.YtijifjiehldcaaaGreat
set_option linter.unusedSimpArgs false
open Go.RowKit
set_option linter.unusedVariables false

theorem ext0_below {S : Nat → Prop} {w w' : World} {G : Om} (e : Ext S O0 w G w') : Below w.heap.size w w' :=
  e.wr.below (fun k _ hk => absurd rfl hk.2) (Nat.le_refl _)
/-- A Touch that is over from the first. -/
def VoidT (w : World) (v : Value) : Prop := v = .pointer none ∨ ∃ b T, v = .pointer (some ⟨b, 0, none⟩) ∧ TAt w b T ∧ T.at_ = 0 ∧ T.done = false
theorem VoidT.below {w w' : World} {v : Value} (h : VoidT w v) (hb : Below w.heap.size w w') : VoidT w' v := by
  rcases h with h | ⟨b, T, h1, h2, h3, h4⟩
  · exact .inl h
  · exact .inr ⟨b, T, h1, h2.wrote (S := fun _ => False) (Wrote.of_below hb) id, h3, h4⟩
theorem VoidT.ptr {w : World} {v : Value} (h : VoidT w v) : ∃ a, v = .pointer a := by
  rcases h with h | ⟨b, T, h1, _⟩
  · exact ⟨_, h⟩
  · exact ⟨_, h1⟩
theorem c_over_void {w : World} {v : Value} (h : VoidT w v) : Calls Tryz.prog 21 #[v] w fun e w' => e = .returned (.bool true) ∧ w = w' := by
  rcases h with rfl | ⟨b, T, rfl, h2, h3, h4⟩
  · exact c_Over_nil w
  · have := c_Over b T w h2
    rwa [show tcOver T = true by unfold tcOver; simpa using h3] at this
theorem c_done_void {w : World} {v : Value} (h : VoidT w v) : Calls Tryz.prog 22 #[v] w fun e w' => e = .returned (.bool false) ∧ w = w' := by
  rcases h with rfl | ⟨b, T, rfl, h2, h3, h4⟩
  · go_enter Tryz.func22, Tryz.ntmps22
    go_wp2
    go_ret
    exact ⟨rfl, rfl⟩
  · have := c_Done b T w h2
    rwa [h4] at this
theorem c_step_void {w : World} {v : Value} (u : Option Addr) (h : VoidT w v) : Calls Tryz.prog 18 #[v, .pointer u] w fun e w' => e = .returned (.bool true) ∧ w = w' := by
  have ho := c_over_void h
  obtain ⟨a, rfl⟩ := h.ptr
  clear h
  go_enter Tryz.func18, Tryz.ntmps18
  go_wp2_with fail
  refine ho.mono ?_
  rintro e w' ⟨rfl, rfl⟩
  go_wp2_with fail
  refine ho.mono ?_
  rintro e w' ⟨rfl, rfl⟩
  go_wp2
  go_ret
  exact ⟨rfl, rfl⟩
/-- A Touch that begins takes no step without a world. -/
theorem c_step_none {w : World} {t : Nat} {T : Tc} (h : TAt w t T) (ha : tcOver T = false) : Calls Tryz.prog 18 #[.pointer (some ⟨t, 0, none⟩), .pointer none] w fun e w' => e = .returned (.bool false) ∧ w = w' := by
  have ho := c_Over t T w h
  rw [ha] at ho
  clear h ha
  go_enter Tryz.func18, Tryz.ntmps18
  go_wp2_with fail
  refine ho.mono ?_
  rintro e w' ⟨rfl, rfl⟩
  go_wp2_with fail
  refine ho.mono ?_
  rintro e w' ⟨rfl, rfl⟩
  go_wp2
  go_ret
  exact ⟨rfl, rfl⟩
def fst0 : Fst := ⟨⟨0, 0, 0, 0, 0⟩, false, [], [], [], 0⟩
theorem fst0_in (w : World) : FstIn w fst0 (.slice none 0 0) (.slice none 0 0) (.slice none 0 0) where
  it := Arr.nil _ _
  pu := Arr.nil _ _
  st := Arr.nil _ _
  it1 := by decide
  pu1 := by decide
  st1 := by decide
  key := by intro x hx; cases hx
  pub := by intro x hx; cases hx
  stb := by intro x hx; cases hx
  ti0 := by decide
  ti1 := by decide
theorem infoTp : (Tryz.prog.info? 43).map (fun i => (i.zero, i.size, i.bytes)) = some (some (.pointer none), 1, 8) := by kernel_rfl
set_option maxHeartbeats 4000000 in
set_option maxRecDepth 100000 in
theorem w_RefsVoid (ref : Int) (w : World) (r0 : -9223372036854775808 ≤ ref) (r1 : ref ≤ 9223372036854775807) :
    Calls Tryz.prog 4 #[.int .i64 ref] w fun e w' => e = .returned (.bool true) ∧ Below w.heap.size w w' := by
  have hB := c_Begin fst0 _ _ _ w (fst0_in w)
  unfold fstV fst0 at hB
  dsimp only at hB
  go_enter Tryz.func4, Tryz.ntmps4
  go_wp2_with fail
  refine hB.mono ?_
  rintro e w1 ⟨B, C, rfl, G, e1, s, m, pr, n0, n1, m1, hit, hnt⟩
  have HP := Lib.hid pr
  have HH := Lib.hid e1.hi
  have HB := Lib.hid (ext0_below e1)
  have HIt := Lib.hid hit
  have HNt := Lib.hid hnt
  clear hB e1 pr hit hnt
  go_wp2_with fail
  obtain ⟨W3, hW3⟩ : ∃ W3, W3 = (w1.alloc (.cells #[.pointer (some ⟨B.p, 0, none⟩), .pointer (some ⟨C.p, 0, none⟩)] 34)).alloc (.cells #[.int .u64 0, .int .i64 0, .int .u64 0, .bool false] 59) := ⟨_, rfl⟩
  have hz3 : Hid (W3.heap.size = w1.heap.size + 1 + 1) := Lib.hid (by rw [hW3]; simp)
  have b3 : Below w1.heap.size w1 W3 := by rw [hW3]; exact ((Below.refl _ _).alloc (Nat.le_refl _) _).alloc (by simp) _
  have y0 : W3.cell? ⟨w1.heap.size, 0, none⟩ = some (.pointer (some ⟨B.p, 0, none⟩)) := by rw [hW3]; simp
  have y1 : W3.cell? ⟨w1.heap.size, 1, none⟩ = some (.pointer (some ⟨C.p, 0, none⟩)) := by rw [hW3]; simp
  have v1 : VoidT W3 (.pointer (some ⟨w1.heap.size + 1, 0, none⟩)) := .inr ⟨_, tcNew 0, rfl, by rw [hW3]; exact TAt.new _ _ _ _ (by simp), rfl, rfl⟩
  rw [← hW3]
  clear hW3
  refine (c_NewTouch 0 W3 (by decide) (by decide)).mono ?_
  rintro e W4 ⟨rfl, hW4⟩
  have b34 : Below W3.heap.size W3 W4 := by rw [← hW4]; exact (Below.refl _ _).alloc (Nat.le_refl _) _
  have hz4 : Hid (W4.heap.size = W3.heap.size + 1) := Lib.hid (by rw [← hW4]; simp)
  have v2 : VoidT W4 (.pointer (some ⟨W3.heap.size, 0, none⟩)) := .inr ⟨_, tcNew 0, rfl, by rw [← hW4]; exact TAt.new _ _ _ _ rfl, rfl, rfl⟩
  have hN3 : w1.heap.size < W3.heap.size := by have := hz3.out; omega
  have x0 := (b34.cell (p := ⟨w1.heap.size, 0, none⟩) hN3).trans y0
  have x1 := (b34.cell (p := ⟨w1.heap.size, 1, none⟩) hN3).trans y1
  have hN4 : w1.heap.size < W4.heap.size := by have := hz4.out; omega
  clear hW4
  go_wp2_with fail
  refine (c_NewTouch (-1) W4 (by decide) (by decide)).mono ?_
  rintro e W5 ⟨rfl, hW5⟩
  have b45 : Below W4.heap.size W4 W5 := by rw [← hW5]; exact (Below.refl _ _).alloc (Nat.le_refl _) _
  have hz5 : Hid (W5.heap.size = W4.heap.size + 1) := Lib.hid (by rw [← hW5]; simp)
  have v3 : VoidT W5 (.pointer (some ⟨W4.heap.size, 0, none⟩)) := .inr ⟨_, tcNew 0, rfl, by rw [← hW5]; exact TAt.new _ _ _ _ rfl, rfl, rfl⟩
  have x0' := (b45.cell (p := ⟨w1.heap.size, 0, none⟩) hN4).trans x0
  have x1' := (b45.cell (p := ⟨w1.heap.size, 1, none⟩) hN4).trans x1
  have B5 := Lib.hid (b3.trans ((b34.trans (b45.mono (by have := hz4.out; omega))).mono (by omega)))
  have V1 := Lib.hid ((v1.below b34).below b45)
  have V2 := Lib.hid (v2.below b45)
  have V3 := Lib.hid v3
  have V0 : Hid (VoidT W5 (.pointer none)) := Lib.hid (.inl rfl)
  obtain ⟨p1, hp1⟩ : ∃ p1 : Option Addr, p1 = some ⟨w1.heap.size + 1, 0, none⟩ := ⟨_, rfl⟩
  obtain ⟨p2, hp2⟩ : ∃ p2 : Option Addr, p2 = some ⟨W3.heap.size, 0, none⟩ := ⟨_, rfl⟩
  obtain ⟨p3, hp3⟩ : ∃ p3 : Option Addr, p3 = some ⟨W4.heap.size, 0, none⟩ := ⟨_, rfl⟩
  rw [← hp1] at V1
  rw [← hp2] at V2
  rw [← hp3] at V3
  have hN5 : w1.heap.size < W5.heap.size := by have := hz5.out; omega
  clear b3 b34 b45 v1 v2 v3 x0 x1 y0 y1 hN3 hN4 hz3 hz4 hz5 hW5
  by_cases hr : ref < 1
  · go_wp2_with fail
    rw [← hp1, ← hp2, ← hp3]
    clear hp1 hp2 hp3
    obtain ⟨bz, hbze⟩ : ∃ bz, bz = W5.heap.size := ⟨_, rfl⟩
    obtain ⟨Wy, hWy⟩ : ∃ Wy, Wy = W5.alloc (.cells #[.pointer p1, .pointer none, .pointer p2, .pointer p3] 43) := ⟨_, rfl⟩
    have hby : Hid (Wy.heap.size = bz + 1) := Lib.hid (by rw [hWy, hbze]; simp)
    have b5y : Below W5.heap.size W5 Wy := by rw [hWy]; exact (Below.refl _ _).alloc (Nat.le_refl _) _
    have hown : Hid (Wy.ownsRow bz 43 1 (.slice (some ⟨bz, 0, none⟩) 4 4) 4 [.pointer p1, .pointer none, .pointer p2, .pointer p3]) := Lib.hid (by
      rw [hWy, hbze]
      exact ⟨rfl, .inr ⟨_, 4, #[.pointer p1, .pointer none, .pointer p2, .pointer p3], rfl, Nat.le_refl _, heap_alloc_new _ _, by decide, by unfold maxLen; decide, rfl, rfl⟩⟩)
    have y0 := (b5y.cell (p := ⟨w1.heap.size, 0, none⟩) hN5).trans x0'
    have y1 := (b5y.cell (p := ⟨w1.heap.size, 1, none⟩) hN5).trans x1'
    rw [← hWy, ← hbze]
    clear hWy
    refine (c_NewTouch ref Wy r0 r1).mono ?_
    rintro e W6 ⟨rfl, hW6⟩
    have by6 : Below Wy.heap.size Wy W6 := by rw [← hW6]; exact (Below.refl _ _).alloc (Nat.le_refl _) _
    have hz6 : Hid (W6.heap.size = Wy.heap.size + 1) := Lib.hid (by rw [← hW6]; simp)
    have v4 : VoidT W6 (.pointer (some ⟨Wy.heap.size, 0, none⟩)) := .inr ⟨_, tcNew (plRef ref), rfl, by rw [← hW6]; exact TAt.new _ _ _ _ rfl, by show plRef ref = 0; unfold plRef; rw [if_pos (by omega)], rfl⟩
    have hown6 := Lib.hid (ownsRow_below hown.out by6)
    have hNy : w1.heap.size < Wy.heap.size := by have := hby.out; omega
    have z0 := (by6.cell (p := ⟨w1.heap.size, 0, none⟩) hNy).trans y0
    have z1 := (by6.cell (p := ⟨w1.heap.size, 1, none⟩) hNy).trans y1
    have hN6 : w1.heap.size < W6.heap.size := by have := hz6.out; omega
    have B6 := Lib.hid ((B5.out.trans (b5y.mono (by omega))).trans (by6.mono (by omega)))
    have U := Lib.hid (fun v (h : VoidT W5 v) => (h.below b5y).below by6)
    have U4 := Lib.hid v4
    have hb6 : bz ≤ W6.heap.size := by have := hz6.out; have := hby.out; omega
    obtain ⟨p4, hp4⟩ : ∃ p4 : Option Addr, p4 = some ⟨Wy.heap.size, 0, none⟩ := ⟨_, rfl⟩
    have HP4 := Lib.hid hp4
    have HBe := Lib.hid hbze
    rw [← hp4] at U4
    rw [← hp4]
    clear hown b5y by6 x0' x1' y0 y1 hW6 v4 hbze hp4 hNy
    obtain ⟨i0, hi, hi0, hi1, hi2⟩ := info_parts infoTp
    go_wp2_with (at_builtin; go_loud (refine append_one W6 rfl _ _ 60 rfl bz 43 i0 _ 1 8 Tryz.underlying60 hi hi0 hi1 hi2 rfl (by decide) (by decide) (.slice (some ⟨bz, 0, none⟩) 4 4) 4 [.pointer p1, .pointer none, .pointer p2, .pointer p3] rfl hown6.out [.pointer p4] _ rfl rfl (by simp [Value.oneCell']) (by decide) hb6 ?_); intro gg cap Wz hownz hgr; have HOz := Lib.hid hownz; have HGr := Lib.hid hgr; clear hownz hgr)
    have hWr : Hid (Wrote (fun k => k = bz) W6 Wz) := Lib.hid ((Wrote.refl _ _).grown HGr.out fun k hk _ => by cases hk; rfl)
    have y0 := (hWr.out.cell (p := ⟨w1.heap.size, 0, none⟩) hN6 (by show ¬ w1.heap.size = bz; rw [HBe.out]; omega)).trans z0
    have y1 := (hWr.out.cell (p := ⟨w1.heap.size, 1, none⟩) hN6 (by show ¬ w1.heap.size = bz; rw [HBe.out]; omega)).trans z1
    have hNz : w1.heap.size < Wz.heap.size := Nat.lt_of_lt_of_le hN6 hWr.out.size
    obtain ⟨bz', hbz'⟩ : ∃ b', b' = gg := ⟨_, rfl⟩
    subst hbz'
    have hbz := (HOz.out.lt bz' rfl).2
    have HBz : Hid (Below w1.heap.size w1 Wz) := Lib.hid (B6.out.trans (hWr.out.below (fun k _ hk => by rw [hk, HBe.out]; omega) (by omega)))
    have hcs := fun j u hj => HOz.out.cells (g := bz') rfl j u hj
    have hadd : ∀ j, (⟨bz', 0, none⟩ : Addr).add j = ⟨bz', j, none⟩ := fun j => by unfold Addr.add; split <;> simp_all
    have hvw : ∀ v, VoidT W6 v → (∀ b, v = .pointer (some ⟨b, 0, none⟩) → b ≠ bz) → VoidT Wz v := fun v h hn => by
      rcases h with h | ⟨b, T, h1, h2, h3, h4⟩
      · exact .inl h
      · exact .inr ⟨b, T, h1, h2.wrote hWr.out (hn b h1), h3, h4⟩
    have hw5 : ∀ p, VoidT W5 (.pointer p) → VoidT Wz (.pointer p) := fun p h => hvw _ (U.out _ h) fun b hb => by
      rcases h with h | ⟨b2, T, h1, h2, h3, h4⟩
      · rw [h] at hb; cases hb
      · rw [h1] at hb; cases hb; have := h2.lt; rw [HBe.out]; omega
    have HVz : Hid (∀ k, k < 5 → ∃ v, Wz.cell? ⟨bz', k, none⟩ = some v ∧ VoidT Wz v) := Lib.hid fun k hk => by
      rcases (show k = 0 ∨ k = 1 ∨ k = 2 ∨ k = 3 ∨ k = 4 by omega) with rfl | rfl | rfl | rfl | rfl
      · exact ⟨_, by rw [← hadd]; exact hcs 0 _ rfl, hw5 _ V1.out⟩
      · exact ⟨_, by rw [← hadd]; exact hcs 1 _ rfl, hw5 _ V0.out⟩
      · exact ⟨_, by rw [← hadd]; exact hcs 2 _ rfl, hw5 _ V2.out⟩
      · exact ⟨_, by rw [← hadd]; exact hcs 3 _ rfl, hw5 _ V3.out⟩
      · exact ⟨_, by rw [← hadd]; exact hcs 4 _ rfl, hvw _ U4.out fun b hb => by rw [HP4.out] at hb; cases hb; have := hby.out; omega⟩
    clear z0 z1 hcs hadd hvw hw5 hN6 hb6 hN5
    go_loopw [7] (fun i wr => ∃ k : Nat, k ≤ 5 ∧ i = .int .i64 k ∧ Below Wz.heap.size Wz wr)
      (fun i _ => 5 - (intOf i).toNat)
    case atStart => exact ⟨0, by decide, rfl, Below.refl _ _⟩
    case round =>
      obtain ⟨k, hk, rfl, hb⟩ := hrel
      have HBr := Lib.hid hb
      have x0 := (hb.cell (p := ⟨w1.heap.size, 0, none⟩) hNz).trans y0
      have x1 := (hb.cell (p := ⟨w1.heap.size, 1, none⟩) hNz).trans y1
      have hNr : w1.heap.size < wr.heap.size := Nat.lt_of_lt_of_le hNz hb.size
      by_cases hk2 : k < 5
      · obtain ⟨v, hvc, hvv⟩ := HVz.out k hk2
        have l0 := (hb.cell (p := ⟨bz', k, none⟩) hbz).trans hvc
        have HV := Lib.hid (hvv.below hb)
        obtain ⟨a, rfl⟩ := hvv.ptr
        have hbr : bz' < wr.heap.size := Nat.lt_of_lt_of_le hbz hb.size
        clear hvc hvv hb y0 y1
        go_wp2_with fail
        refine wp_region_via (by kernel_rfl) (by kernel_rfl) ?_
        try simp only [List.append_eq, List.cons_append, List.nil_append]
        repeat (go_big_quiet_step ((first
          | (go_at_call 21; exact viaS (c_over_void (HV.out.below (via_below _ _))))
          | (go_at_call 18; exact viaS (c_step_void _ (HV.out.below (via_below _ _))))
          | (go_at_call 22; exact viaS (c_done_void (HV.out.below (via_below _ _)))))))
        refine wpQuiet_nil ?_
        rintro _ ⟨e, rfl⟩
        go_wp2_with fail
        go_roundw
        case rel => exact ⟨k + 1, by omega, by go_num, HBr.out.trans ((via_below wr e).mono HBr.out.size)⟩
        case measure => simp [intOf]; omega
      · obtain rfl : k = 5 := by omega
        have HB9 : Hid (Below w1.heap.size w1 wr) := Lib.hid (HBz.out.trans (hb.mono HBz.out.size))
        clear hb y0 y1 HBr
        go_wp2_with fail
        refine (c_NewTouch 5 wr (by decide) (by decide)).mono ?_
        rintro e W8 ⟨rfl, hW8⟩
        have HT : Hid (TAt W8 wr.heap.size (tcNew (plRef 5))) := Lib.hid (by rw [← hW8]; exact TAt.new _ _ _ _ rfl)
        have HB8 : Hid (Below w1.heap.size w1 W8) := Lib.hid (by rw [← hW8]; exact HB9.out.alloc (Nat.le_of_lt hNr) _)
        have z0 : W8.cell? ⟨w1.heap.size, 0, none⟩ = some (.pointer (some ⟨B.p, 0, none⟩)) := by rw [← hW8]; exact (((Below.refl wr.heap.size wr).alloc (Nat.le_refl _) _).cell (p := ⟨w1.heap.size, 0, none⟩) hNr).trans x0
        have z1 : W8.cell? ⟨w1.heap.size, 1, none⟩ = some (.pointer (some ⟨C.p, 0, none⟩)) := by rw [← hW8]; exact (((Below.refl wr.heap.size wr).alloc (Nat.le_refl _) _).cell (p := ⟨w1.heap.size, 1, none⟩) hNr).trans x1
        clear hW8 x0 x1 HB9
        go_wp2_with fail
        refine (c_step_none HT.out (by decide)).mono ?_
        rintro e w' ⟨rfl, rfl⟩
        go_wp2_with fail
        refine (c_Over _ _ _ HT.out).mono ?_
        rintro e w' ⟨rfl, rfl⟩
        rw [show tcOver (tcNew (plRef 5)) = false by decide]
        go_wp2_with fail
        refine (c_Done _ _ _ HT.out).mono ?_
        rintro e w' ⟨rfl, rfl⟩
        rw [show (tcNew (plRef 5)).done = false by decide]
        go_wp2_with fail
        refine (c_PSameAll (HP.out.below HH.out HB8.out) (fun j hj => Nat.lt_of_lt_of_le (HH.out j hj) HB8.out.size) (by omega) HNt.out (by rw [HIt.out]; decide)).mono ?_
        rintro e W9 ⟨rfl, hb9⟩
        have HB9 : Hid (Below w1.heap.size w1 W9) := Lib.hid (HB8.out.trans (hb9.mono HB8.out.size))
        clear hb9 z0 z1
        go_wp2_with fail
        refine (c_lives22 W9).mono ?_
        rintro e W10 ⟨rfl, hb10⟩
        go_wp2_with fail
        go_ret
        exact ⟨rfl, HB.out.trans ((HB9.out.trans (hb10.mono HB9.out.size)).mono HB.out.size)⟩
  · go_wp2_with fail
    rw [← hp1, ← hp2, ← hp3]
    clear hp1 hp2 hp3
    obtain ⟨bz, hbze⟩ : ∃ bz, bz = W5.heap.size := ⟨_, rfl⟩
    obtain ⟨Wz, hWz⟩ : ∃ Wz, Wz = W5.alloc (.cells #[.pointer p1, .pointer none, .pointer p2, .pointer p3] 43) := ⟨_, rfl⟩
    have b5z : Below W5.heap.size W5 Wz := by rw [hWz]; exact (Below.refl _ _).alloc (Nat.le_refl _) _
    have hNz : w1.heap.size < Wz.heap.size := Nat.lt_of_lt_of_le hN5 b5z.size
    have hbz : bz < Wz.heap.size := by rw [hWz, hbze]; simp
    have HBz := Lib.hid (B5.out.trans (b5z.mono (by omega)))
    have y0 := (b5z.cell (p := ⟨w1.heap.size, 0, none⟩) hN5).trans x0'
    have y1 := (b5z.cell (p := ⟨w1.heap.size, 1, none⟩) hN5).trans x1'
    have HVz : Hid (∀ k, k < 4 → ∃ v, Wz.cell? ⟨bz, k, none⟩ = some v ∧ VoidT Wz v) := Lib.hid fun k hk => by
      rcases (show k = 0 ∨ k = 1 ∨ k = 2 ∨ k = 3 by omega) with rfl | rfl | rfl | rfl
      · exact ⟨_, by rw [hWz, hbze]; simp, V1.out.below b5z⟩
      · exact ⟨_, by rw [hWz, hbze]; simp, V0.out.below b5z⟩
      · exact ⟨_, by rw [hWz, hbze]; simp, V2.out.below b5z⟩
      · exact ⟨_, by rw [hWz, hbze]; simp, V3.out.below b5z⟩
    rw [← hWz, ← hbze]
    clear hWz hbze x0' x1' hN5 b5z
    go_loopw [7] (fun i wr => ∃ k : Nat, k ≤ 4 ∧ i = .int .i64 k ∧ Below Wz.heap.size Wz wr)
      (fun i _ => 4 - (intOf i).toNat)
    case atStart => exact ⟨0, by decide, rfl, Below.refl _ _⟩
    case round =>
      obtain ⟨k, hk, rfl, hb⟩ := hrel
      have HBr := Lib.hid hb
      have x0 := (hb.cell (p := ⟨w1.heap.size, 0, none⟩) hNz).trans y0
      have x1 := (hb.cell (p := ⟨w1.heap.size, 1, none⟩) hNz).trans y1
      have hNr : w1.heap.size < wr.heap.size := Nat.lt_of_lt_of_le hNz hb.size
      by_cases hk2 : k < 4
      · obtain ⟨v, hvc, hvv⟩ := HVz.out k hk2
        have l0 := (hb.cell (p := ⟨bz, k, none⟩) hbz).trans hvc
        have HV := Lib.hid (hvv.below hb)
        obtain ⟨a, rfl⟩ := hvv.ptr
        have hbr : bz < wr.heap.size := Nat.lt_of_lt_of_le hbz hb.size
        clear hvc hvv hb y0 y1
        go_wp2_with fail
        refine wp_region_via (by kernel_rfl) (by kernel_rfl) ?_
        try simp only [List.append_eq, List.cons_append, List.nil_append]
        repeat (go_big_quiet_step ((first
          | (go_at_call 21; exact viaS (c_over_void (HV.out.below (via_below _ _))))
          | (go_at_call 18; exact viaS (c_step_void _ (HV.out.below (via_below _ _))))
          | (go_at_call 22; exact viaS (c_done_void (HV.out.below (via_below _ _)))))))
        refine wpQuiet_nil ?_
        rintro _ ⟨e, rfl⟩
        go_wp2_with fail
        go_roundw
        case rel => exact ⟨k + 1, by omega, by go_num, HBr.out.trans ((via_below wr e).mono HBr.out.size)⟩
        case measure => simp [intOf]; omega
      · obtain rfl : k = 4 := by omega
        have HB9 : Hid (Below w1.heap.size w1 wr) := Lib.hid (HBz.out.trans (hb.mono HBz.out.size))
        clear hb y0 y1 HBr
        go_wp2_with fail
        refine (c_NewTouch 5 wr (by decide) (by decide)).mono ?_
        rintro e W8 ⟨rfl, hW8⟩
        have HT : Hid (TAt W8 wr.heap.size (tcNew (plRef 5))) := Lib.hid (by rw [← hW8]; exact TAt.new _ _ _ _ rfl)
        have HB8 : Hid (Below w1.heap.size w1 W8) := Lib.hid (by rw [← hW8]; exact HB9.out.alloc (Nat.le_of_lt hNr) _)
        have z0 : W8.cell? ⟨w1.heap.size, 0, none⟩ = some (.pointer (some ⟨B.p, 0, none⟩)) := by rw [← hW8]; exact (((Below.refl wr.heap.size wr).alloc (Nat.le_refl _) _).cell (p := ⟨w1.heap.size, 0, none⟩) hNr).trans x0
        have z1 : W8.cell? ⟨w1.heap.size, 1, none⟩ = some (.pointer (some ⟨C.p, 0, none⟩)) := by rw [← hW8]; exact (((Below.refl wr.heap.size wr).alloc (Nat.le_refl _) _).cell (p := ⟨w1.heap.size, 1, none⟩) hNr).trans x1
        clear hW8 x0 x1 HB9
        go_wp2_with fail
        refine (c_step_none HT.out (by decide)).mono ?_
        rintro e w' ⟨rfl, rfl⟩
        go_wp2_with fail
        refine (c_Over _ _ _ HT.out).mono ?_
        rintro e w' ⟨rfl, rfl⟩
        rw [show tcOver (tcNew (plRef 5)) = false by decide]
        go_wp2_with fail
        refine (c_Done _ _ _ HT.out).mono ?_
        rintro e w' ⟨rfl, rfl⟩
        rw [show (tcNew (plRef 5)).done = false by decide]
        go_wp2_with fail
        refine (c_PSameAll (HP.out.below HH.out HB8.out) (fun j hj => Nat.lt_of_lt_of_le (HH.out j hj) HB8.out.size) (by omega) HNt.out (by rw [HIt.out]; decide)).mono ?_
        rintro e W9 ⟨rfl, hb9⟩
        have HB9 : Hid (Below w1.heap.size w1 W9) := Lib.hid (HB8.out.trans (hb9.mono HB8.out.size))
        clear hb9 z0 z1
        go_wp2_with fail
        refine (c_lives22 W9).mono ?_
        rintro e W10 ⟨rfl, hb10⟩
        go_wp2_with fail
        go_ret
        exact ⟨rfl, HB.out.trans ((HB9.out.trans (hb10.mono HB9.out.size)).mono HB.out.size)⟩
end Go.Proofs.YtijifjiehldcaaaGreat
