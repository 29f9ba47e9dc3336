/- Layer 21: a Turn's other lines; its step. -/
import Derived.Test.YtkamcgcpfnkodaaGreatTn5
namespace Go.Proofs.YtkamcgcpfnkodaaGreat
open Go.RowKit Go.Shelf
set_option linter.unusedVariables false

set_option maxHeartbeats 4000000 in
set_option maxRecDepth 100000 in
/-- Line 4. -/
theorem c_TStep4 {X : Nat} {z : Tz} {w : World} {O : Om} {B : Wb} {f : Cf} {s : AW} (hP : PW w O B f s) (hX : TnAt w O X z) (hhi : ∀ j, O j ≠ 0 → j < w.heap.size) (hl : z.ln = 4) (t0 : 0 ≤ z.t) (t1 : z.t < 18446744073709551616) (c0 : 0 ≤ z.c) (cl : z.c < fnvSize (plOld z.t)) (k0 : 0 ≤ z.k) (k1 : z.k < 4) (hz : ∀ a, 4096 ≤ a → s.M a = 0) (n0 : 0 ≤ s.n) (n1 : s.n ≤ 4611686018427387904) :
    Calls Tryz.prog 14 #[.pointer (some ⟨X, 0, none⟩), .pointer (some ⟨B.p, 0, none⟩)] w (RP (SX 10 15) w O (.bool (tzOver (tnStep f.q (s, z)).2)) fun W G => PW W G B f (tnStep f.q (s, z)).1 ∧ TnAt W G X (tnStep f.q (s, z)).2) := by
  obtain ⟨ln, t, c, n, k⟩ := z
  dsimp only at hl t0 t1 c0 cl k0 k1
  subst hl
  obtain ⟨sw, mv, hx, hmv, -⟩ := hX.ex
  obtain ⟨Y, rfl, hm⟩ := hmv rfl
  dsimp only at hx hm
  have HM : Hid (Me 10 15 w O w O B f s 10 X (tnCs 4 t c n (.pointer sw) (.pointer (some ⟨Y, 0, none⟩)))) := Lib.hid (Me.start hhi hP hx)
  have x0 := hx.c 0 _ rfl
  have x1 := hx.c 1 _ rfl
  have x5 := hx.c 5 _ rfl
  have HA := Lib.hid (fun W => c_As t W t0 t1)
  have hsb := fnvSize_le (plOld t)
  have hpt : plTags (plOld t) c = 4096 + 8 * (fnvSize (plOld t) + c) := by unfold plTags; rw [if_pos ⟨c0, cl⟩]
  have hob : -9223372036854775808 ≤ plOld t ∧ plOld t ≤ 9223372036854775807 := by unfold plOld; split <;> omega
  have HL := Lib.hid (c_MStep hP hm hhi hob.1 hob.2 (by omega) (by omega) k0 k1 (hz _ (by rw [hpt]; omega)) (by rw [hpt]; omega) (by rw [hpt]; omega) n0 n1)
  have hst : Hid (tnStep f.q (s, ⟨4, t, c, n, k⟩) = (awLoad (plTags (plOld t) c) s, ⟨if k = 3 then 5 else 4, t, c, n, k + 1⟩)) := Lib.hid (by unfold tnStep; rw [if_neg (show ¬ ((4 : Int) = 1) by decide), if_neg (show ¬ ((4 : Int) = 2) by decide), if_pos rfl])
  rw [hst.out]
  clear hP hX hx hhi hmv hm hsb hpt hob hz cl
  go_enter Tryz.func14, Tryz.ntmps14
  go_wp2_with fail
  refine (c_TOver x0).mono ?_
  rintro e w' ⟨rfl, rfl⟩
  go_wp2_with fail
  refine (HA.out _).mono ?_
  rintro e w' ⟨rfl, rfl⟩
  go_wp2_with fail
  refine HL.out.mono ?_
  rintro e w2 ⟨rfl, G2, e2, P2, hk2⟩
  have M2 : Hid (Me 10 15 w O w2 G2 B f (awLoad (plTags (plOld t) c) s) 10 X (tnCs 4 t c n (.pointer sw) (.pointer (some ⟨Y, 0, none⟩)))) := Lib.hid ⟨HM.out.e.trans (e2.mono fun t _ h => by unfold SX at h ⊢; omega), P2, HM.out.t.ext e2 (by unfold SX; omega)⟩
  have HK := Lib.hid hk2
  clear HL e2 P2 x0 x1 x5 HM hk2
  have q0 := M2.out.t.c 0 _ rfl
  have f0 := M2.out.t.f 0
  by_cases h3 : k = 3
  · have d3 : decide (k = 3) = true := by simp [h3]
    rw [d3]
    have M3 := Lib.hid (M2.out.set (by decide) (by decide) (by decide) 0 (.int .i64 5) (by simp [tnCs]))
    have r0 := M3.out.t.c 0 _ rfl
    go_wp2_with fail
    refine (c_TOver r0).mono ?_
    rintro e w' ⟨rfl, rfl⟩
    go_wp2_with fail
    go_ret
    try rw [if_pos h3]
    exact ⟨rfl, _, M3.out.e, M3.out.p, ⟨sw, _, M3.out.t, fun h => absurd (show (5 : Int) = 4 from h) (by decide), fun h => absurd (show (5 : Int) = 3 from h) (by decide)⟩⟩
  · have d3 : decide (k = 3) = false := by simp [h3]
    rw [d3]
    go_wp2_with fail
    refine (c_TOver q0).mono ?_
    rintro e w' ⟨rfl, rfl⟩
    go_wp2_with fail
    go_ret
    try rw [if_neg h3]
    exact ⟨rfl, _, M2.out.e, M2.out.p, ⟨sw, _, M2.out.t, fun _ => ⟨Y, rfl, HK.out (by omega)⟩, fun h => absurd (show (4 : Int) = 3 from h) (by decide)⟩⟩
set_option maxHeartbeats 4000000 in
set_option maxRecDepth 100000 in
/-- Line 3. -/
theorem c_TStep3 {X : Nat} {z : Tz} {w : World} {O : Om} {B : Wb} {f : Cf} {s : AW} (hP : PW w O B f s) (hX : TnAt w O X z) (hhi : ∀ j, O j ≠ 0 → j < w.heap.size) (hl : z.ln = 3) (t0 : 0 ≤ z.t) (t1 : z.t < 18446744073709551616) (n0 : 0 ≤ s.n) (n1 : s.n ≤ 4611686018427387904) :
    Calls Tryz.prog 14 #[.pointer (some ⟨X, 0, none⟩), .pointer (some ⟨B.p, 0, none⟩)] w (RP (SX 10 15) w O (.bool (tzOver (tnStep f.q (s, z)).2)) fun W G => PW W G B f (tnStep f.q (s, z)).1 ∧ TnAt W G X (tnStep f.q (s, z)).2) := by
  obtain ⟨ln, t, c, n, k⟩ := z
  dsimp only at hl t0 t1
  subst hl
  obtain ⟨sw, mv, hx, -, hsw⟩ := hX.ex
  obtain ⟨Z, rfl, hm⟩ := hsw rfl
  dsimp only at hx hm
  have HM : Hid (Me 10 15 w O w O B f s 10 X (tnCs 3 t c n (.pointer (some ⟨Z, 0, none⟩)) (.pointer mv))) := Lib.hid (Me.start hhi hP hx)
  have x0 := hx.c 0 _ rfl
  have x1 := hx.c 1 _ rfl
  have x4 := hx.c 4 _ rfl
  have HA := Lib.hid (fun W => c_As t W t0 t1)
  have hwb : 0 ≤ plWord (plNow t) 0 ∧ plWord (plNow t) 0 < 18446744073709551616 := by unfold plWord; omega
  have HL := Lib.hid (c_SwStep hP hm hhi hwb.1 hwb.2 n0 n1)
  have hst : Hid (tnStep f.q (s, ⟨3, t, c, n, k⟩) = (awNote 5 0 0 0 0 (plNow t) (awStore 2 (plWord (plNow t) 0) s), ⟨0, t, c, n, k⟩)) := Lib.hid (by unfold tnStep; rw [if_neg (show ¬ ((3 : Int) = 1) by decide), if_neg (show ¬ ((3 : Int) = 2) by decide), if_neg (show ¬ ((3 : Int) = 4) by decide), if_neg (show ¬ ((3 : Int) = 5) by decide)])
  rw [hst.out]
  clear hP hX hx hhi hsw hm hwb
  go_enter Tryz.func14, Tryz.ntmps14
  go_wp2_with fail
  refine (c_TOver x0).mono ?_
  rintro e w' ⟨rfl, rfl⟩
  go_wp2_with fail
  refine (HA.out _).mono ?_
  rintro e w' ⟨rfl, rfl⟩
  go_wp2_with fail
  refine HL.out.mono ?_
  rintro e w2 ⟨rfl, G2, e2, P2⟩
  have M2 : Hid (Me 10 15 w O w2 G2 B f (awNote 5 0 0 0 0 (plNow t) (awStore 2 (plWord (plNow t) 0) s)) 10 X (tnCs 3 t c n (.pointer (some ⟨Z, 0, none⟩)) (.pointer mv))) := Lib.hid ⟨HM.out.e.trans (e2.mono fun t _ h => by unfold SX at h ⊢; omega), P2, HM.out.t.ext e2 (by unfold SX; omega)⟩
  clear HL e2 P2 x0 x1 x4 HM
  have q0 := M2.out.t.c 0 _ rfl
  have f0 := M2.out.t.f 0
  have M3 := Lib.hid (M2.out.set (by decide) (by decide) (by decide) 0 (.int .i64 0) (by simp [tnCs]))
  have r0 := M3.out.t.c 0 _ rfl
  go_wp2_with fail
  refine (c_TOver r0).mono ?_
  rintro e w' ⟨rfl, rfl⟩
  go_wp2_with fail
  go_ret
  exact ⟨rfl, _, M3.out.e, M3.out.p, ⟨_, mv, M3.out.t, fun h => absurd (show (0 : Int) = 4 from h) (by decide), fun h => absurd (show (0 : Int) = 3 from h) (by decide)⟩⟩
set_option maxHeartbeats 4000000 in
set_option maxRecDepth 100000 in
/-- Line 5. -/
theorem c_TStep5 {X : Nat} {z : Tz} {w : World} {O : Om} {B : Wb} {f : Cf} {s : AW} (hP : PW w O B f s) (hX : TnAt w O X z) (hhi : ∀ j, O j ≠ 0 → j < w.heap.size) (hl : z.ln = 5) (t0 : 0 ≤ z.t) (t1 : z.t < 18446744073709551616) (c0 : 0 ≤ z.c) (c1 : z.c < 4096) (m0 : 0 ≤ z.n) (m1 : z.n ≤ 4611686018427387904) (n0 : 0 ≤ s.n) (n1 : s.n ≤ 4611686018427387904) :
    Calls Tryz.prog 14 #[.pointer (some ⟨X, 0, none⟩), .pointer (some ⟨B.p, 0, none⟩)] w (RP (SX 10 15) w O (.bool (tzOver (tnStep f.q (s, z)).2)) fun W G => PW W G B f (tnStep f.q (s, z)).1 ∧ TnAt W G X (tnStep f.q (s, z)).2) := by
  obtain ⟨ln, t, c, n, k⟩ := z
  dsimp only at hl t0 t1 c0 c1 m0 m1
  subst hl
  obtain ⟨sw, mv, hx, -, -⟩ := hX.ex
  dsimp only at hx
  have HM : Hid (Me 10 15 w O w O B f s 10 X (tnCs 5 t c n (.pointer sw) (.pointer mv))) := Lib.hid (Me.start hhi hP hx)
  have x0 := hx.c 0 _ rfl
  have x1 := hx.c 1 _ rfl
  have x2 := hx.c 2 _ rfl
  have p0 := hP.wo.c0
  have HA := Lib.hid (fun W => c_As t W t0 t1)
  have hw1 : IntKind.u64.wrap (c + 1) = c + 1 := by rw [IntKind.wrap_u64]; omega
  have hw2 : wrap64 (n + 1) = n + 1 := by unfold wrap64; omega
  have hw3 : IntKind.i64.wrap (n + 1) = n + 1 := by simp [IntKind.wrap, IntKind.bits, IntKind.signed]; omega
  obtain ⟨q, hq⟩ : ∃ q, q = f.q := ⟨_, rfl⟩
  have hst : Hid (tnStep f.q (s, ⟨5, t, c, n, k⟩) = (awStore 3 (c + 1) s, ⟨if n + 1 < q then 1 else 0, t, c, n + 1, k⟩)) := Lib.hid (by unfold tnStep; rw [if_neg (show ¬ ((5 : Int) = 1) by decide), if_neg (show ¬ ((5 : Int) = 2) by decide), if_neg (show ¬ ((5 : Int) = 4) by decide), if_pos rfl, hq])
  have HQ := Lib.hid hq
  rw [hst.out]
  clear hP hX hx hhi hq
  go_enter Tryz.func14, Tryz.ntmps14
  go_wp2_with fail
  refine (c_TOver x0).mono ?_
  rintro e w' ⟨rfl, rfl⟩
  go_wp2_with fail
  refine (HA.out _).mono ?_
  rintro e w' ⟨rfl, rfl⟩
  go_wp2_with fail
  go_region_held3 (fun w' => w'.cell? ⟨B.p, 0, none⟩ = some (.pointer (some ⟨B.c, 0, none⟩)) ∧ w'.cell? ⟨X, 2, none⟩ = some (.int .u64 c)) (go_keep)
    ((go_at_call 27
      refine (c_StoreP 3 (c + 1) (w := w.drew) HM.out.drew.p HM.out.drew.e.hi (by decide) (by decide) (by omega) (by omega) n0 n1).mono ?_
      rintro e w2 ⟨rfl, G2, e2, P2⟩
      have M2 := Lib.hid (HM.out.drew.world (by decide) e2 P2)
      have p02 := M2.out.p.wo.c0
      have q22 := M2.out.t.c 2 _ rfl
      clear e2 P2))
  all_goals
    clear x0 x1 x2 p0 HM
    have q3 := M2.out.t.c 3 _ rfl
    have f3 := M2.out.t.f 3
    have M3 := Lib.hid (M2.out.set (by decide) (by decide) (by decide) 3 (.int .i64 (n + 1)) (by simp [tnCs]))
    go_wp2_with fail
    obtain ⟨w3, hw⟩ : ∃ w3, w3 = w2.setCell ⟨X, 3, none⟩ (.int .i64 (n + 1)) := ⟨_, rfl⟩
    rw [← hw] at M3 ⊢
    clear hw q3 f3 p02 q22
    have r3 := M3.out.t.c 3 _ rfl
    have p6 := M3.out.p.wo.c6
    rw [← HQ.out] at p6
    by_cases hlt : n + 1 < q
    · have d : decide (n + 1 < q) = true := by simp [hlt]
      go_quiet (fail)
      have MW : Hid (Me 10 15 w O (w3.drewN nq) G2 B f (awStore 3 (c + 1) s) 10 X _) := Lib.hid (M3.out.below ⟨rfl, rfl, rfl, Nat.le_refl _, fun _ _ => rfl⟩)
      obtain ⟨w4, hw4⟩ : ∃ w4, w4 = w3.drewN nq := ⟨_, rfl⟩
      rw [← hw4] at MW ⊢
      clear hw4 r3 p6 M3
      have q0 := MW.out.t.c 0 _ rfl
      have f0 := MW.out.t.f 0
      have M5 := Lib.hid (MW.out.set (by decide) (by decide) (by decide) 0 (.int .i64 1) (by simp [tnCs]))
      have r0 := M5.out.t.c 0 _ rfl
      go_wp2_with fail
      refine (c_TOver r0).mono ?_
      rintro e w' ⟨rfl, rfl⟩
      go_wp2_with fail
      go_ret
      try rw [if_pos hlt]
      exact ⟨rfl, _, M5.out.e, M5.out.p, ⟨sw, mv, M5.out.t, fun h => absurd (show (1 : Int) = 4 from h) (by decide), fun h => absurd (show (1 : Int) = 3 from h) (by decide)⟩⟩
    · have d : decide (n + 1 < q) = false := by simp; omega
      go_quiet (fail)
      have MW : Hid (Me 10 15 w O (w3.drewN nq) G2 B f (awStore 3 (c + 1) s) 10 X _) := Lib.hid (M3.out.below ⟨rfl, rfl, rfl, Nat.le_refl _, fun _ _ => rfl⟩)
      obtain ⟨w4, hw4⟩ : ∃ w4, w4 = w3.drewN nq := ⟨_, rfl⟩
      rw [← hw4] at MW ⊢
      clear hw4 r3 p6 M3
      have q0 := MW.out.t.c 0 _ rfl
      have f0 := MW.out.t.f 0
      have M5 := Lib.hid (MW.out.set (by decide) (by decide) (by decide) 0 (.int .i64 0) (by simp [tnCs]))
      have r0 := M5.out.t.c 0 _ rfl
      go_wp2_with fail
      refine (c_TOver r0).mono ?_
      rintro e w' ⟨rfl, rfl⟩
      go_wp2_with fail
      go_ret
      try rw [if_neg hlt]
      exact ⟨rfl, _, M5.out.e, M5.out.p, ⟨sw, mv, M5.out.t, fun h => absurd (show (0 : Int) = 4 from h) (by decide), fun h => absurd (show (0 : Int) = 3 from h) (by decide)⟩⟩
end Go.Proofs.YtkamcgcpfnkodaaGreat
