/- Layer 23: an Evict's lines 1 to 6. -/
import Derived.Test.YtlcibfpibklbdaaGreatHd
import Derived.Test.YtlcibfpibklbdaaGreatGt
namespace Go.Proofs.YtlcibfpibklbdaaGreat
set_option linter.unusedSimpArgs false
open Go.RowKit Go.Shelf
set_option linter.unusedVariables false

theorem evStep_1 (s : AW) (z : Evm) (h : z.ln = 1) : evStep (s, z) = (awStore 5 1 s, ⟨2, z.t, z.h, z.n, z.ref, z.mw, z.o⟩) := by
  unfold evStep
  dsimp only
  rw [if_pos h]
theorem evStep_2 (s : AW) (z : Evm) (h : z.ln = 2) : evStep (s, z) = (awLoad 2 s, ⟨3, s.M 2, z.h, z.n, z.ref, z.mw, z.o⟩) := by
  unfold evStep
  dsimp only
  rw [if_neg (by omega), if_pos h]
theorem evStep_3 (s : AW) (z : Evm) (h : z.ln = 3) : evStep (s, z) = (awLoad 4 s, ⟨4, z.t, s.M 4 % plSpots z.t, 0, z.ref, z.mw, z.o⟩) := by
  unfold evStep
  dsimp only
  rw [if_neg (by omega), if_neg (by omega), if_pos h]
theorem evStep_4 (s : AW) (z : Evm) (h : z.ln = 4) : evStep (s, z) = (awLoad (evSpot z).item s, if evRef s z = 0 then evNext ⟨4, z.t, z.h, z.n, 0, z.mw, z.o⟩ else ⟨5, z.t, z.h, z.n, evRef s z, z.mw, z.o⟩) := by
  unfold evStep
  dsimp only
  rw [if_neg (by omega), if_neg (by omega), if_neg (by omega), if_pos h]
theorem evStep_5 (s : AW) (z : Evm) (h : z.ln = 5) : evStep (s, z) = (awLoad (plRef z.ref) s, ⟨if s.M (plRef z.ref) % 2 = 0 then 7 else 6, z.t, z.h, z.n, z.ref, s.M (plRef z.ref), ⟨0, 0⟩⟩) := by
  unfold evStep
  dsimp only
  rw [if_neg (by omega), if_neg (by omega), if_neg (by omega), if_neg (by omega), if_pos h]
theorem evStep_6 (s : AW) (z : Evm) (h : z.ln = 6) : evStep (s, z) = (awStore (plRef z.ref) ((z.mw + 1) % 18446744073709551616) s, evNext z) := by
  unfold evStep
  dsimp only
  rw [if_neg (by omega), if_neg (by omega), if_neg (by omega), if_neg (by omega), if_neg (by omega), if_pos h]
theorem evStep_7 (s : AW) (z : Evm) (h : z.ln = 7) : evStep (s, z) = (awAdd (evSpot z).ver 1 s, ⟨8, z.t, z.h, z.n, z.ref, z.mw, z.o⟩) := by
  unfold evStep
  dsimp only
  rw [if_neg (by omega), if_neg (by omega), if_neg (by omega), if_neg (by omega), if_neg (by omega), if_neg (by omega), if_pos h]
theorem evStep_8 (s : AW) (z : Evm) (h : z.ln = 8) : evStep (s, z) = (if z.o.ln = 1 then awNote 1 z.ref (evSpot z).b (evSpot z).q (evSpot z).s 0 (outStep (evSpot z) s z.o).1 else (outStep (evSpot z) s z.o).1, ⟨if z.o.ln = 2 then 9 else 8, z.t, z.h, z.n, z.ref, z.mw, (outStep (evSpot z) s z.o).2⟩) := by
  unfold evStep
  dsimp only
  rw [if_neg (by omega), if_neg (by omega), if_neg (by omega), if_neg (by omega), if_neg (by omega), if_neg (by omega), if_neg (by omega), if_pos h]
theorem evStep_9 (s : AW) (z : Evm) (h : z.ln = 9) : evStep (s, z) = (awAdd (evSpot z).ver 1 s, ⟨10, z.t, z.h, z.n, z.ref, z.mw, z.o⟩) := by
  unfold evStep
  dsimp only
  rw [if_neg (by omega), if_neg (by omega), if_neg (by omega), if_neg (by omega), if_neg (by omega), if_neg (by omega), if_neg (by omega), if_neg (by omega), if_pos h]
theorem evStep_10 (s : AW) (z : Evm) (h : z.ln = 10) : evStep (s, z) = (awAdd 6 18446744073709551615 s, ⟨11, z.t, z.h, z.n, z.ref, z.mw, z.o⟩) := by
  unfold evStep
  dsimp only
  rw [if_neg (by omega), if_neg (by omega), if_neg (by omega), if_neg (by omega), if_neg (by omega), if_neg (by omega), if_neg (by omega), if_neg (by omega), if_neg (by omega), if_pos h]
theorem evStep_11 (s : AW) (z : Evm) (h : z.ln = 11) : evStep (s, z) = (if z.ref = 0 then awNote 8 0 0 0 0 z.n (awStore 4 z.h s) else awNote 8 z.ref (evSpot z).b (evSpot z).q (evSpot z).s (z.n + 1) (awStore 4 ((z.h + z.n + 1) % plSpots z.t) s), ⟨12, z.t, z.h, z.n, z.ref, z.mw, z.o⟩) := by
  unfold evStep
  dsimp only
  rw [if_neg (by omega), if_neg (by omega), if_neg (by omega), if_neg (by omega), if_neg (by omega), if_neg (by omega), if_neg (by omega), if_neg (by omega), if_neg (by omega), if_neg (by omega), if_pos h]
theorem evStep_12 (s : AW) (z : Evm) (h : z.ln = 12) : evStep (s, z) = (awStore 5 0 s, ⟨0, z.t, z.h, z.n, z.ref, z.mw, z.o⟩) := by
  unfold evStep
  dsimp only
  rw [if_neg (by omega), if_neg (by omega), if_neg (by omega), if_neg (by omega), if_neg (by omega), if_neg (by omega), if_neg (by omega), if_neg (by omega), if_neg (by omega), if_neg (by omega), if_neg (by omega), if_pos h]
section
variable {X : Nat} {w : World} {O : Om} {B : Wb} {f : Cf} {s : AW} {k : Nat}
set_option maxHeartbeats 4000000 in
set_option maxRecDepth 100000 in
theorem c_Ev1 {z : Evm} (hP : PW w O B f s) (hX : EvAt w O k X z) (hz : EvOk z) (hl : z.ln = 1) (hk : 10 ≤ k) (hhi : ∀ j, O j ≠ 0 → j < w.heap.size) (n0 : 0 ≤ s.n) (n1 : s.n ≤ 4611686018427387904) :
    Calls Tryz.prog 29 #[.pointer (some ⟨X, 0, none⟩), .pointer (some ⟨B.p, 0, none⟩)] w (EPost w O B f k X (evStep (s, z))) := by
  rw [evStep_1 s z hl]
  obtain ⟨ln, t, h, n, ref, mk, o⟩ := z
  dsimp only at hl
  subst hl
  obtain ⟨all, a, ou, l, hx, hall, -, -, -⟩ := hX.ex
  dsimp only at hall ⊢
  have HM : Hid (Me k (k + 5) w O w O B f s k X (evCs ⟨1, t, h, n, ref, mk, o⟩ all a ou l)) := Lib.hid (Me.start hhi hP hx)
  have x0 := hx.c 0 _ rfl
  have p0 := hP.wo.c0
  dsimp only at x0
  unfold EPost
  have HL := Lib.hid (c_StoreP 5 1 hP hhi (by decide) (by decide) (by decide) (by decide) n0 n1)
  clear hP hX hx hhi hz
  go_enter Tryz.func29, Tryz.ntmps29
  go_wp2_with fail
  go_step3
  go_wp2_with fail
  refine (c_EvOver x0).mono ?_
  rintro e w' ⟨rfl, rfl⟩
  go_wp2_with fail
  refine HL.out.mono ?_
  rintro e w2 ⟨rfl, G2, e2, P2⟩
  have M2 := Lib.hid (HM.out.world hk e2 P2)
  have q0 := M2.out.t.c 0 _ rfl
  have f0 := M2.out.t.f 0
  have M3 := Lib.hid (M2.out.set hk (Nat.le_refl _) (by omega) 0 (.int .i64 2) (by simp [evCs]))

  clear HL e2 P2 x0 p0
  go_wp2_with fail
  go_ret
  exact ⟨rfl, _, M3.out.e, M3.out.p, EvAt.simple all a ou l M3.out.t (fun h => absurd (show (3 : Int) ≤ 2 from h) (by decide)) (fun h => absurd (show (2 : Int) = 7 from h) (by decide)) (fun h => absurd (show (2 : Int) = 8 from h) (by decide)) (fun h => absurd (show (2 : Int) = 9 from h) (by decide))⟩
set_option maxHeartbeats 4000000 in
set_option maxRecDepth 100000 in
theorem c_Ev2 {z : Evm} (hP : PW w O B f s) (hX : EvAt w O k X z) (hz : EvOk z) (hl : z.ln = 2) (hk : 10 ≤ k) (hhi : ∀ j, O j ≠ 0 → j < w.heap.size) (n0 : 0 ≤ s.n) (n1 : s.n ≤ 4611686018427387904) :
    Calls Tryz.prog 29 #[.pointer (some ⟨X, 0, none⟩), .pointer (some ⟨B.p, 0, none⟩)] w (EPost w O B f k X (evStep (s, z))) := by
  rw [evStep_2 s z hl]
  obtain ⟨ln, t, h, n, ref, mk, o⟩ := z
  dsimp only at hl
  subst hl
  obtain ⟨all, a, ou, l, hx, hall, -, -, -⟩ := hX.ex
  dsimp only at hall ⊢
  have HM : Hid (Me k (k + 5) w O w O B f s k X (evCs ⟨2, t, h, n, ref, mk, o⟩ all a ou l)) := Lib.hid (Me.start hhi hP hx)
  have x0 := hx.c 0 _ rfl
  have p0 := hP.wo.c0
  dsimp only at x0
  unfold EPost
  have HL := Lib.hid (c_LoadP 2 hP hhi (by decide) (by decide) n0 n1)
  have hbd := hP.bd 2
  have HS := Lib.hid (fun W => c_Spots (s.M 2) W hbd.1 hbd.2)
  clear hP hX hx hhi hz
  go_enter Tryz.func29, Tryz.ntmps29
  go_wp2_with fail
  go_step3
  go_wp2_with fail
  refine (c_EvOver x0).mono ?_
  rintro e w' ⟨rfl, rfl⟩
  go_wp2_with fail
  refine HL.out.mono ?_
  rintro e w2 ⟨rfl, G2, e2, P2⟩
  have M2 := Lib.hid (HM.out.world hk e2 P2)
  have q1 := M2.out.t.c 1 _ rfl
  have f1 := M2.out.t.f 1
  have M3 := Lib.hid (M2.out.set hk (Nat.le_refl _) (by omega) 1 (.int .u64 (s.M 2)) (by simp [evCs]))
  obtain ⟨w3, hw3⟩ : ∃ w3, w3 = w2.setCell ⟨X, 1, none⟩ (.int .u64 (s.M 2)) := ⟨_, rfl⟩
  clear HL e2 P2 x0 p0
  go_wp2_with fail
  rw [← hw3] at M3 ⊢
  clear q1 f1 hw3
  have q1 := M3.out.t.c 1 _ rfl
  go_wp2_with fail
  refine (HS.out _).mono ?_
  rintro e w' ⟨rfl, rfl⟩
  have q2 := M3.out.t.c 2 _ rfl
  have f2 := M3.out.t.f 2
  have M4 := Lib.hid (M3.out.set hk (Nat.le_refl _) (by omega) 2 (.int .i64 (plSpots (s.M 2))) (by simp [evCs]))
  have q0 := M4.out.t.c 0 _ rfl
  have f0 := M4.out.t.f 0
  have M5 := Lib.hid (M4.out.set hk (Nat.le_refl _) (by omega) 0 (.int .i64 3) (by simp [evCs]))

  go_wp2_with fail
  go_ret
  exact ⟨rfl, _, M5.out.e, M5.out.p, EvAt.simple (plSpots (s.M 2)) a ou l M5.out.t (fun _ => rfl) (fun h => absurd (show (3 : Int) = 7 from h) (by decide)) (fun h => absurd (show (3 : Int) = 8 from h) (by decide)) (fun h => absurd (show (3 : Int) = 9 from h) (by decide))⟩
set_option maxHeartbeats 4000000 in
set_option maxRecDepth 100000 in
theorem c_Ev3 {z : Evm} (hP : PW w O B f s) (hX : EvAt w O k X z) (hz : EvOk z) (hl : z.ln = 3) (hk : 10 ≤ k) (hhi : ∀ j, O j ≠ 0 → j < w.heap.size) (n0 : 0 ≤ s.n) (n1 : s.n ≤ 4611686018427387904) :
    Calls Tryz.prog 29 #[.pointer (some ⟨X, 0, none⟩), .pointer (some ⟨B.p, 0, none⟩)] w (EPost w O B f k X (evStep (s, z))) := by
  rw [evStep_3 s z hl]
  obtain ⟨ln, t, h, n, ref, mk, o⟩ := z
  dsimp only at hl
  subst hl
  obtain ⟨all, a, ou, l, hx, hall, -, -, -⟩ := hX.ex
  dsimp only at hall ⊢
  have HM : Hid (Me k (k + 5) w O w O B f s k X (evCs ⟨3, t, h, n, ref, mk, o⟩ all a ou l)) := Lib.hid (Me.start hhi hP hx)
  have x0 := hx.c 0 _ rfl
  have p0 := hP.wo.c0
  dsimp only at x0
  unfold EPost
  have HL := Lib.hid (c_LoadP 4 (w := w.drew) (hP.below hhi (drew_below w)) (fun j hj => hhi j hj) (by decide) (by decide) n0 n1)
  have hbd := hP.bd 4
  have hal := hall (by decide)
  have hsp := plSpots_bd t
  rw [← hal] at hsp ⊢
  have x2 := hx.c 2 _ rfl
  have dz : (all == 0) = false := by rw [beq_eq_false_iff_ne]; omega
  have dz2 : ¬ all = 0 := by omega
  have dz3 : 0 < all := by omega
  have wa : IntKind.u64.wrap all = all := by rw [IntKind.wrap_u64]; omega
  have wb : wrap64 (s.M 4 % all) = s.M 4 % all := by
    have := Int.emod_nonneg (s.M 4) (show all ≠ 0 by omega)
    have := Int.emod_lt_of_pos (s.M 4) (show 0 < all by omega)
    unfold wrap64; omega
  have wc : IntKind.i64.wrap (s.M 4 % all) = s.M 4 % all := by
    have := Int.emod_nonneg (s.M 4) (show all ≠ 0 by omega)
    have := Int.emod_lt_of_pos (s.M 4) (show 0 < all by omega)
    simp [IntKind.wrap, IntKind.bits, IntKind.signed]; omega
  have HAL := Lib.hid hal
  have h40 := hbd.1
  have htm : (s.M 4).tmod all = s.M 4 % all := Int.tmod_eq_emod_of_nonneg h40
  clear hP hX hx hhi hz hall hal
  go_enter Tryz.func29, Tryz.ntmps29
  go_wp2_with fail
  go_step3
  go_wp2_with fail
  refine (c_EvOver x0).mono ?_
  rintro e w' ⟨rfl, rfl⟩
  go_wp2_with fail
  go_region_held3 (fun w' => w'.cell? ⟨X, 2, none⟩ = some (.int .i64 all)) (go_keep)
    ((go_at_call 81
      refine HL.out.mono ?_
      rintro e w2 ⟨rfl, G2, e2, P2⟩
      have M2 := Lib.hid (HM.out.drew.world hk e2 P2)
      have q2 := M2.out.t.c 2 _ rfl
      have q3 := M2.out.t.c 3 _ rfl
      have q4 := M2.out.t.c 4 _ rfl
      have f3 := M2.out.t.f 3
      have f4 := M2.out.t.f 4
      have M3 := Lib.hid (M2.out.set hk (Nat.le_refl _) (by omega) 3 (.int .i64 (s.M 4 % all)) (by simp [evCs]))
      have M4 := Lib.hid (M3.out.set hk (Nat.le_refl _) (by omega) 4 (.int .i64 0) (by simp [evCs]))
      have q23 := M3.out.t.c 2 _ rfl
      have q24 := M4.out.t.c 2 _ rfl
      clear e2 P2))
  all_goals
    have q0 := M4.out.t.c 0 _ rfl
    have f0 := M4.out.t.f 0
    have M5 := Lib.hid (M4.out.set hk (Nat.le_refl _) (by omega) 0 (.int .i64 4) (by simp [evCs]))

    go_wp2_with fail
    go_ret
    exact ⟨rfl, _, M5.out.e, M5.out.p, EvAt.simple all a ou l M5.out.t (fun _ => HAL.out) (fun h => absurd (show (4 : Int) = 7 from h) (by decide)) (fun h => absurd (show (4 : Int) = 8 from h) (by decide)) (fun h => absurd (show (4 : Int) = 9 from h) (by decide))⟩
set_option maxHeartbeats 4000000 in
set_option maxRecDepth 100000 in
theorem c_Ev4 {z : Evm} (hP : PW w O B f s) (hX : EvAt w O k X z) (hz : EvOk z) (hl : z.ln = 4) (hk : 10 ≤ k) (hhi : ∀ j, O j ≠ 0 → j < w.heap.size) (n0 : 0 ≤ s.n) (n1 : s.n ≤ 4611686018427387904) :
    Calls Tryz.prog 29 #[.pointer (some ⟨X, 0, none⟩), .pointer (some ⟨B.p, 0, none⟩)] w (EPost w O B f k X (evStep (s, z))) := by
  rw [evStep_4 s z hl]
  obtain ⟨ln, t, h, n, ref, mk, o⟩ := z
  dsimp only at hl
  subst hl
  obtain ⟨all, a, ou, l, hx, hall, -, -, -⟩ := hX.ex
  dsimp only at hall ⊢
  have HM : Hid (Me k (k + 5) w O w O B f s k X (evCs ⟨4, t, h, n, ref, mk, o⟩ all a ou l)) := Lib.hid (Me.start hhi hP hx)
  have x0 := hx.c 0 _ rfl
  have p0 := hP.wo.c0
  dsimp only at x0
  unfold EPost
  obtain ⟨l0, l1, t0, t1, h0, h1, m0, m1, m2, r0, r1, k0, k1, w0, w1, o8⟩ := hz
  dsimp only at t0 t1 h0 h1 m0 m1 m2 r0 r1 k0 k1
  have h1 := h1 (by first | exact .inl (by decide) | exact .inr rfl)
  have hal := hall (by decide)
  have HAL := Lib.hid hal
  have hsp := plSpots_bd t
  rw [← hal] at hsp
  have hw1 : wrap64 (n + 1) = n + 1 := by unfold wrap64; omega
  have hw2 : IntKind.i64.wrap (n + 1) = n + 1 := by simp [IntKind.wrap, IntKind.bits, IntKind.signed]; omega
  have hw3 : wrap64 (2 * all) = 2 * all := by unfold wrap64; omega
  have hw4 : IntKind.i64.wrap (2 * all) = 2 * all := by simp [IntKind.wrap, IntKind.bits, IntKind.signed]; omega
  obtain ⟨v, hv⟩ : ∃ v, v = plAt t (h + n) := ⟨_, rfl⟩
  have hvo : v.ok := by rw [hv]; exact plAt_ok _ _
  have HV := Lib.hid (And.intro hv hvo)
  have HSP := Lib.hid (fun (W : World) (g1 : W.cell? ⟨X, 1, none⟩ = some (.int .u64 t)) (g3 : W.cell? ⟨X, 3, none⟩ = some (.int .i64 h)) (g4 : W.cell? ⟨X, 4, none⟩ = some (.int .i64 n)) => c_EvSpot t h n g1 g3 g4 t0 t1 h0 h1 m0 m1)
  rw [← hv] at HSP

  have hit := hvo.item
  have hq2 := hvo.q2
  have HI := Lib.hid (fun W => c_Item v.b v.q v.s W (by have := hvo.b0; omega) (by have := hvo.b1; omega) (by have := hvo.q0; omega) (by omega) (by have := hvo.s0; omega) (by have := hvo.s1; omega))
  obtain ⟨ia, hia⟩ : ∃ ia, ia = v.item := ⟨_, rfl⟩
  have hia2 : plItem v.b v.q v.s = ia := hia.symm
  rw [hia2] at HI
  rw [← hia] at hit
  have es : (evSpot ⟨4, t, h, n, ref, mk, o⟩).item = ia := by rw [hia, hv]; rfl
  have er : evRef s ⟨4, t, h, n, ref, mk, o⟩ = wrap64 (s.M ia) := by unfold evRef; rw [es]
  rw [es, er]
  obtain ⟨r, hr⟩ : ∃ r, r = wrap64 (s.M ia) := ⟨_, rfl⟩
  rw [← hr]
  have hr1 : wrap64 (s.M ia) = r := hr.symm
  have hr2 : IntKind.i64.wrap (s.M ia) = r := by rw [hr]; unfold wrap64; simp [IntKind.wrap, IntKind.bits, IntKind.signed]; omega
  have hia0 : 0 ≤ ia ∧ ia < 18446744073709551616 := by omega
  have x1 := hx.c 1 _ rfl
  have x3 := hx.c 3 _ rfl
  have x4 := hx.c 4 _ rfl
  dsimp only at x1 x3 x4
  clear hP hX hx hhi hall hal hr hia hia2 es er hit hq2 hvo hv l0 l1 t0 t1 h0 h1 m2 r0 r1 k0 k1 w0 w1 o8 hsp
  go_enter Tryz.func29, Tryz.ntmps29
  go_wp2_with fail
  refine wp_scope_once 0 rfl ?_
  intro J hJ
  have HJ := Lib.hid hJ
  clear hJ
  go_wp2_with fail
  refine (c_EvOver x0).mono ?_
  rintro e w' ⟨rfl, rfl⟩
  go_wp2_with fail
  refine (HSP.out _ x1 x3 x4).mono ?_
  rintro e w1 ⟨rfl, hb1⟩
  have M1 := Lib.hid (HM.out.below hb1)
  clear hb1 x1 x3 x4
  go_wp2_with fail
  refine (HI.out _).mono ?_
  rintro e w2 ⟨rfl, hb2⟩
  have M2 := Lib.hid (M1.out.below hb2)
  clear hb2
  go_wp2_with fail
  refine (c_LoadP ia M2.out.p M2.out.e.hi hia0.1 hia0.2 n0 n1).mono ?_
  rintro e w3 ⟨rfl, G3, e3, P3⟩
  have M3 := Lib.hid (M2.out.world hk e3 P3)
  have q5 := M3.out.t.c 5 _ rfl
  have f5 := M3.out.t.f 5
  have M4 := Lib.hid (M3.out.set hk (Nat.le_refl _) (by omega) 5 (.int .i64 r) (by simp [evCs]))
  clear e3 P3 x0 p0
  go_upto_region 15 with fail
  obtain ⟨w4, hw4'⟩ : ∃ w4, w4 = w3.setCell ⟨X, 5, none⟩ (.int .i64 r) := ⟨_, rfl⟩
  rw [← hw4'] at M4 ⊢
  clear q5 f5 hw4' hr1 hr2
  have q5 := M4.out.t.c 5 _ rfl
  by_cases hr0 : r = 0
  · subst hr0
    go_wp2_with fail
    go_step3
    refine ⟨rfl, HJ.out _ _ ?_⟩
    clear HJ
    have q0 := M4.out.t.c 0 _ rfl
    have f0 := M4.out.t.f 0
    have A1 := Lib.hid (M4.out.set hk (Nat.le_refl _) (by omega) 0 (.int .i64 4) (by simp [evCs]))
    have q4 := A1.out.t.c 4 _ rfl
    have f4 := A1.out.t.f 4
    have A2 := Lib.hid (A1.out.set hk (Nat.le_refl _) (by omega) 4 (.int .i64 (n + 1)) (by simp [evCs]))
    go_upto_region 28 with fail
    obtain ⟨w8, hw8⟩ : ∃ w8, w8 = (w4.setCell ⟨X, 0, none⟩ (.int .i64 4)).setCell ⟨X, 4, none⟩ (.int .i64 (n + 1)) := ⟨_, rfl⟩
    rw [← hw8] at A2 ⊢
    clear q0 f0 q4 f4 hw8 A1
    have r4 := A2.out.t.c 4 _ rfl
    have r2 := A2.out.t.c 2 _ rfl
    by_cases he : n + 1 = 2 * all
    · have de : (n + 1 == 2 * all) = true := by simp [he]
      have HE := Lib.hid he
      clear he
      go_quiet (fail)
      have A3 := Lib.hid (A2.out.below (w1 := w8.drewN nq) ⟨rfl, rfl, rfl, Nat.le_refl _, fun _ _ => rfl⟩)
      obtain ⟨w9, hw9⟩ : ∃ w9, w9 = w8.drewN nq := ⟨_, rfl⟩
      rw [← hw9] at A3 ⊢
      clear hw9 r4 r2 A2
      have q5 := A3.out.t.c 5 _ rfl
      have f5 := A3.out.t.f 5
      have A4 := Lib.hid (A3.out.set hk (Nat.le_refl _) (by omega) 5 (.int .i64 0) (by simp [evCs]))
      have q0 := A3.out.t.c 0 _ rfl
      have f0 := A3.out.t.f 0
      have A5 := Lib.hid (A4.out.set hk (Nat.le_refl _) (by omega) 0 (.int .i64 11) (by simp [evCs]))
      go_wp2_with fail
      go_ret
      refine ⟨?_, _, A5.out.e, A5.out.p, ?_⟩
      · try rw [if_pos rfl]
        unfold evNext; rw [if_pos (by rw [← HAL.out]; exact HE.out)]; rfl
      · try rw [if_pos rfl]
        unfold evNext
        rw [if_pos (by rw [← HAL.out]; exact HE.out)]
        exact EvAt.simple all a ou l A5.out.t (fun _ => HAL.out) (fun h => absurd (show (11 : Int) = 7 from h) (by decide)) (fun h => absurd (show (11 : Int) = 8 from h) (by decide)) (fun h => absurd (show (11 : Int) = 9 from h) (by decide))
    · have de : (n + 1 == 2 * all) = false := by simp [he]
      have HE := Lib.hid he
      clear he
      go_quiet (fail)
      have A3 := Lib.hid (A2.out.below (w1 := w8.drewN nq) ⟨rfl, rfl, rfl, Nat.le_refl _, fun _ _ => rfl⟩)
      obtain ⟨w9, hw9⟩ : ∃ w9, w9 = w8.drewN nq := ⟨_, rfl⟩
      rw [← hw9] at A3 ⊢
      clear hw9 r4 r2 A2
      go_wp2_with fail
      go_ret
      refine ⟨?_, _, A3.out.e, A3.out.p, ?_⟩
      · try rw [if_pos rfl]
        unfold evNext; rw [if_neg (by rw [← HAL.out]; exact HE.out)]; rfl
      · try rw [if_pos rfl]
        unfold evNext
        rw [if_neg (by rw [← HAL.out]; exact HE.out)]
        exact EvAt.simple all a ou l A3.out.t (fun _ => HAL.out) (fun h => absurd (show (4 : Int) = 7 from h) (by decide)) (fun h => absurd (show (4 : Int) = 8 from h) (by decide)) (fun h => absurd (show (4 : Int) = 9 from h) (by decide))

  · have dr : (r == 0) = false := by simp [hr0]
    have HR0 := Lib.hid hr0
    clear hr0

    have q0 := M4.out.t.c 0 _ rfl
    have f0 := M4.out.t.f 0
    have M5 := Lib.hid (M4.out.set hk (Nat.le_refl _) (by omega) 0 (.int .i64 5) (by simp [evCs]))

    go_wp2_with fail
    go_ret
    refine ⟨by rw [if_neg HR0.out]; rfl, _, M5.out.e, M5.out.p, ?_⟩
    rw [if_neg HR0.out]
    exact EvAt.simple all a ou l M5.out.t (fun _ => HAL.out) (fun h => absurd (show (5 : Int) = 7 from h) (by decide)) (fun h => absurd (show (5 : Int) = 8 from h) (by decide)) (fun h => absurd (show (5 : Int) = 9 from h) (by decide))
set_option maxHeartbeats 4000000 in
set_option maxRecDepth 100000 in
theorem c_Ev6 {z : Evm} (hP : PW w O B f s) (hX : EvAt w O k X z) (hz : EvOk z) (hl : z.ln = 6) (hk : 10 ≤ k) (hhi : ∀ j, O j ≠ 0 → j < w.heap.size) (n0 : 0 ≤ s.n) (n1 : s.n ≤ 4611686018427387904) :
    Calls Tryz.prog 29 #[.pointer (some ⟨X, 0, none⟩), .pointer (some ⟨B.p, 0, none⟩)] w (EPost w O B f k X (evStep (s, z))) := by
  rw [evStep_6 s z hl]
  obtain ⟨ln, t, h, n, ref, mk, o⟩ := z
  dsimp only at hl
  subst hl
  obtain ⟨all, a, ou, l, hx, hall, -, -, -⟩ := hX.ex
  dsimp only at hall ⊢
  have HM : Hid (Me k (k + 5) w O w O B f s k X (evCs ⟨6, t, h, n, ref, mk, o⟩ all a ou l)) := Lib.hid (Me.start hhi hP hx)
  have x0 := hx.c 0 _ rfl
  have p0 := hP.wo.c0
  dsimp only at x0
  unfold EPost
  obtain ⟨l0, l1, t0, t1, h0, h1, m0, m1, m2, r0, r1, k0, k1, w0, w1, o8⟩ := hz
  dsimp only at t0 t1 h0 h1 m0 m1 m2 r0 r1 k0 k1
  have h1 := h1 (by first | exact .inl (by decide) | exact .inr rfl)
  have hal := hall (by decide)
  have HAL := Lib.hid hal
  have hsp := plSpots_bd t
  rw [← hal] at hsp
  have hw1 : wrap64 (n + 1) = n + 1 := by unfold wrap64; omega
  have hw2 : IntKind.i64.wrap (n + 1) = n + 1 := by simp [IntKind.wrap, IntKind.bits, IntKind.signed]; omega
  have hw3 : wrap64 (2 * all) = 2 * all := by unfold wrap64; omega
  have hw4 : IntKind.i64.wrap (2 * all) = 2 * all := by simp [IntKind.wrap, IntKind.bits, IntKind.signed]; omega
  obtain ⟨v, hv⟩ : ∃ v, v = plAt t (h + n) := ⟨_, rfl⟩
  have hvo : v.ok := by rw [hv]; exact plAt_ok _ _
  have HV := Lib.hid (And.intro hv hvo)
  have HSP := Lib.hid (fun (W : World) (g1 : W.cell? ⟨X, 1, none⟩ = some (.int .u64 t)) (g3 : W.cell? ⟨X, 3, none⟩ = some (.int .i64 h)) (g4 : W.cell? ⟨X, 4, none⟩ = some (.int .i64 n)) => c_EvSpot t h n g1 g3 g4 t0 t1 h0 h1 m0 m1)
  rw [← hv] at HSP

  have hrf : 0 ≤ plRef ref ∧ plRef ref < 18446744073709551616 := by unfold plRef; split <;> omega
  have hmb : 0 ≤ (mk + 1) % 18446744073709551616 ∧ (mk + 1) % 18446744073709551616 < 18446744073709551616 := by omega
  have HR := Lib.hid (fun W => c_Ref ref W r0 r1)
  obtain ⟨ra, hra⟩ : ∃ ra, ra = plRef ref := ⟨_, rfl⟩
  rw [← hra] at hrf HR ⊢
  obtain ⟨nm, hnm⟩ : ∃ nm, nm = (mk + 1) % 18446744073709551616 := ⟨_, rfl⟩
  rw [← hnm] at hmb ⊢
  have hnm2 : IntKind.u64.wrap (mk + 1) = nm := by rw [IntKind.wrap_u64]; exact hnm.symm
  have x5 := hx.c 5 _ rfl
  have x6 := hx.c 6 _ rfl
  dsimp only at x5 x6
  clear hP hX hx hhi hall hal hra hnm hvo hv l0 l1 t0 t1 h0 h1 m2 r0 r1 k0 k1 w0 w1 o8 hsp HSP
  go_enter Tryz.func29, Tryz.ntmps29
  go_wp2_with fail
  refine wp_scope_once 0 rfl ?_
  intro J hJ
  have HJ := Lib.hid hJ
  clear hJ
  go_wp2_with fail
  refine (c_EvOver x0).mono ?_
  rintro e w' ⟨rfl, rfl⟩
  go_wp2_with fail
  go_region_held3 (fun w' => w'.cell? ⟨X, 5, none⟩ = some (.int .i64 ref) ∧ w'.cell? ⟨X, 6, none⟩ = some (.int .u64 mk)) (go_keep)
    ((first
      | (go_at_call 26
         refine (HR.out _).mono ?_
         rintro e w1 ⟨rfl, rfl⟩)
      | (go_at_call 39
         refine (c_StoreP ra nm (w := w.drew) HM.out.drew.p HM.out.drew.e.hi hrf.1 hrf.2 hmb.1 hmb.2 n0 n1).mono ?_
         rintro e w2 ⟨rfl, G2, e2, P2⟩
         have M2 := Lib.hid (HM.out.drew.world hk e2 P2)
         have q5 := M2.out.t.c 5 _ rfl
         have q6 := M2.out.t.c 6 _ rfl
         clear e2 P2)))
  all_goals
    clear x0 x5 x6 p0 q5 q6
    go_wp2_with fail
    go_step3
    refine ⟨rfl, HJ.out _ _ ?_⟩
    clear HJ
    have q0 := M2.out.t.c 0 _ rfl
    have f0 := M2.out.t.f 0
    have A1 := Lib.hid (M2.out.set hk (Nat.le_refl _) (by omega) 0 (.int .i64 4) (by simp [evCs]))
    have q4 := A1.out.t.c 4 _ rfl
    have f4 := A1.out.t.f 4
    have A2 := Lib.hid (A1.out.set hk (Nat.le_refl _) (by omega) 4 (.int .i64 (n + 1)) (by simp [evCs]))
    go_upto_region 28 with fail
    obtain ⟨w8, hw8⟩ : ∃ w8, w8 = (w2.setCell ⟨X, 0, none⟩ (.int .i64 4)).setCell ⟨X, 4, none⟩ (.int .i64 (n + 1)) := ⟨_, rfl⟩
    rw [← hw8] at A2 ⊢
    clear q0 f0 q4 f4 hw8 A1
    have r4 := A2.out.t.c 4 _ rfl
    have r2 := A2.out.t.c 2 _ rfl
    by_cases he : n + 1 = 2 * all
    · have de : (n + 1 == 2 * all) = true := by simp [he]
      have HE := Lib.hid he
      clear he
      go_quiet (fail)
      have A3 := Lib.hid (A2.out.below (w1 := w8.drewN nq) ⟨rfl, rfl, rfl, Nat.le_refl _, fun _ _ => rfl⟩)
      obtain ⟨w9, hw9⟩ : ∃ w9, w9 = w8.drewN nq := ⟨_, rfl⟩
      rw [← hw9] at A3 ⊢
      clear hw9 r4 r2 A2
      have q5 := A3.out.t.c 5 _ rfl
      have f5 := A3.out.t.f 5
      have A4 := Lib.hid (A3.out.set hk (Nat.le_refl _) (by omega) 5 (.int .i64 0) (by simp [evCs]))
      have q0 := A3.out.t.c 0 _ rfl
      have f0 := A3.out.t.f 0
      have A5 := Lib.hid (A4.out.set hk (Nat.le_refl _) (by omega) 0 (.int .i64 11) (by simp [evCs]))
      go_wp2_with fail
      go_ret
      refine ⟨?_, _, A5.out.e, A5.out.p, ?_⟩
      · try rw [if_pos rfl]
        unfold evNext; rw [if_pos (by rw [← HAL.out]; exact HE.out)]; rfl
      · try rw [if_pos rfl]
        unfold evNext
        rw [if_pos (by rw [← HAL.out]; exact HE.out)]
        exact EvAt.simple all a ou l A5.out.t (fun _ => HAL.out) (fun h => absurd (show (11 : Int) = 7 from h) (by decide)) (fun h => absurd (show (11 : Int) = 8 from h) (by decide)) (fun h => absurd (show (11 : Int) = 9 from h) (by decide))
    · have de : (n + 1 == 2 * all) = false := by simp [he]
      have HE := Lib.hid he
      clear he
      go_quiet (fail)
      have A3 := Lib.hid (A2.out.below (w1 := w8.drewN nq) ⟨rfl, rfl, rfl, Nat.le_refl _, fun _ _ => rfl⟩)
      obtain ⟨w9, hw9⟩ : ∃ w9, w9 = w8.drewN nq := ⟨_, rfl⟩
      rw [← hw9] at A3 ⊢
      clear hw9 r4 r2 A2
      go_wp2_with fail
      go_ret
      refine ⟨?_, _, A3.out.e, A3.out.p, ?_⟩
      · try rw [if_pos rfl]
        unfold evNext; rw [if_neg (by rw [← HAL.out]; exact HE.out)]; rfl
      · try rw [if_pos rfl]
        unfold evNext
        rw [if_neg (by rw [← HAL.out]; exact HE.out)]
        exact EvAt.simple all a ou l A3.out.t (fun _ => HAL.out) (fun h => absurd (show (4 : Int) = 7 from h) (by decide)) (fun h => absurd (show (4 : Int) = 8 from h) (by decide)) (fun h => absurd (show (4 : Int) = 9 from h) (by decide))
end
end Go.Proofs.YtlcibfpibklbdaaGreat
