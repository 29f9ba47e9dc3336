/- Layer 23: the document's Evict's lines 1 to 6. -/
import Derived.Test.YtlcibfpibklbdaaGreatRe
namespace Go.Proofs.YtlcibfpibklbdaaGreat
set_option linter.unusedSimpArgs false
open Go.RowKit Go.Shelf
set_option linter.unusedVariables false

theorem ReAt.next {W : World} {G : Om} {k R : Nat} (z : Evm) (p : Spt) (a u : Option Addr) (x : Ob W G k R (reCs (evNext z) p a u)) (hp : (evNext z).ln = 11 → p = ⟨0, 0, 0⟩) : ReAt W G k R (evNext z) := by
  by_cases hc : z.n + 1 = 2 * plSpots z.t
  · have e : evNext z = ⟨11, z.t, z.h, z.n + 1, 0, z.mw, z.o⟩ := by unfold evNext; rw [if_pos hc]
    rw [e] at x hp ⊢
    exact ReAt.simple p a u x (fun g => absurd g (by dsimp only; omega)) (fun _ => by rw [if_pos rfl]; exact hp rfl) (by dsimp only; omega) (fun g => absurd g (by dsimp only; omega))
  · have e : evNext z = ⟨4, z.t, z.h, z.n + 1, z.ref, z.mw, z.o⟩ := by unfold evNext; rw [if_neg hc]
    rw [e] at x hp ⊢
    exact ReAt.simple p a u x (fun g => absurd g (by dsimp only; omega)) (fun g => absurd g (by dsimp only; omega)) (by dsimp only; omega) (fun g => absurd g (by dsimp only; omega))
section
variable {R : Nat} {w : World} {O : Om} {C : Wb} {f : Cf} {s : AW} {m k : Nat}
set_option maxHeartbeats 4000000 in
set_option maxRecDepth 100000 in
theorem c_re1 {z : Evm} (hW : RW w O C f s m) (hX : ReAt w O k R z) (hz : EvOk z) (hl : z.ln = 1) (hk : 10 ≤ k) (hm : m ≤ 900000) (hhi : ∀ j, O j ≠ 0 → j < w.heap.size) (n0 : 0 ≤ s.n) (n1 : s.n ≤ 4611686018427387904) :
    Calls Tryz.prog 61 #[.pointer (some ⟨R, 0, none⟩), .pointer (some ⟨C.p, 0, none⟩)] w (REPost w O C f k R m (evStep (s, z))) := by
  obtain ⟨r, hr⟩ : ∃ r, r = evStep (s, z) := ⟨_, rfl⟩
  rw [← hr]
  rw [evStep_1 s z hl] at hr
  obtain ⟨ln, t, h, n, ref, mk, o⟩ := z
  dsimp only at hl
  subst hl
  obtain ⟨p, a, u, hx, c1, c2, c3, c4, c5, c6⟩ := hX.ex
  dsimp only at c1 c2 c3 c4 c5 c6 hr
  have HM : Hid (Md k (k + 3) w O w O C f s m k R (reCs ⟨1, t, h, n, ref, mk, o⟩ p a u)) := Lib.hid (Md.start hhi hW hx)
  have x0 := hx.c 0 _ rfl
  dsimp only at x0
  unfold REPost
  have HR := Lib.hid hr

  have hn := c5 ⟨by decide, by decide⟩
  clear hW hX hx hhi c1 c2 c3 c4 c5 c6 hr hz
  go_enter Tryz.func61, Tryz.ntmps61
  go_wp2_with fail
  refine (c_rwStore 5 1 HM.out.p (by omega) (by decide) (by decide) (by decide) (by decide) HM.out.e.hi n0 n1).mono ?_
  rintro e w2 ⟨rfl, G2, e2, P2⟩
  have M2 := Lib.hid (HM.out.world hk e2 P2)

  have y0 := M2.out.t.c 0 _ rfl
  have f0 := M2.out.t.f 0
  have M3 := Lib.hid (M2.out.set hk (Nat.le_refl _) (by omega) 0 (.int .i64 2) (by simp [reCs]))

  clear e2 P2 x0
  go_wp2_with fail
  go_end0
  rw [HR.out]
  exact ⟨rfl, _, M3.out.e, M3.out.p, ReAt.simple p a u M3.out.t (fun g => absurd g (by dsimp only; omega)) (fun g => absurd g (by dsimp only; omega)) (by dsimp only; omega) (fun _ => hn)⟩
set_option maxHeartbeats 4000000 in
set_option maxRecDepth 100000 in
theorem c_re2 {z : Evm} (hW : RW w O C f s m) (hX : ReAt w O k R z) (hz : EvOk z) (hl : z.ln = 2) (hk : 10 ≤ k) (hm : m ≤ 900000) (hhi : ∀ j, O j ≠ 0 → j < w.heap.size) (n0 : 0 ≤ s.n) (n1 : s.n ≤ 4611686018427387904) :
    Calls Tryz.prog 61 #[.pointer (some ⟨R, 0, none⟩), .pointer (some ⟨C.p, 0, none⟩)] w (REPost w O C f k R m (evStep (s, z))) := by
  obtain ⟨r, hr⟩ : ∃ r, r = evStep (s, z) := ⟨_, rfl⟩
  rw [← hr]
  rw [evStep_2 s z hl] at hr
  obtain ⟨ln, t, h, n, ref, mk, o⟩ := z
  dsimp only at hl
  subst hl
  obtain ⟨p, a, u, hx, c1, c2, c3, c4, c5, c6⟩ := hX.ex
  dsimp only at c1 c2 c3 c4 c5 c6 hr
  have HM : Hid (Md k (k + 3) w O w O C f s m k R (reCs ⟨2, t, h, n, ref, mk, o⟩ p a u)) := Lib.hid (Md.start hhi hW hx)
  have x0 := hx.c 0 _ rfl
  dsimp only at x0
  unfold REPost
  have HR := Lib.hid hr

  have hn := c5 ⟨by decide, by decide⟩
  clear hW hX hx hhi c1 c2 c3 c4 c5 c6 hr hz
  go_enter Tryz.func61, Tryz.ntmps61
  go_wp2_with fail
  refine (c_rwLoad 2 HM.out.p (by omega) (by decide) (by decide) HM.out.e.hi n0 n1).mono ?_
  rintro e w2 ⟨rfl, G2, e2, P2⟩
  have M2 := Lib.hid (HM.out.world hk e2 P2)
  have y5 := M2.out.t.c 5 _ rfl
  have f5 := M2.out.t.f 5
  have M3 := Lib.hid (M2.out.set hk (Nat.le_refl _) (by omega) 5 (.int .u64 (s.M 2)) (by simp [reCs]))

  have y0 := M3.out.t.c 0 _ rfl
  have f0 := M3.out.t.f 0
  have M4 := Lib.hid (M3.out.set hk (Nat.le_refl _) (by omega) 0 (.int .i64 3) (by simp [reCs]))

  clear e2 P2 x0
  go_wp2_with fail
  go_end0
  rw [HR.out]
  exact ⟨rfl, _, M4.out.e, M4.out.p, ReAt.simple p a u M4.out.t (fun g => absurd g (by dsimp only; omega)) (fun g => absurd g (by dsimp only; omega)) (by dsimp only; omega) (fun _ => hn)⟩
set_option maxHeartbeats 4000000 in
set_option maxRecDepth 100000 in
theorem c_re3 {z : Evm} (hW : RW w O C f s m) (hX : ReAt w O k R z) (hz : EvOk z) (hl : z.ln = 3) (hk : 10 ≤ k) (hm : m ≤ 900000) (hhi : ∀ j, O j ≠ 0 → j < w.heap.size) (n0 : 0 ≤ s.n) (n1 : s.n ≤ 4611686018427387904) :
    Calls Tryz.prog 61 #[.pointer (some ⟨R, 0, none⟩), .pointer (some ⟨C.p, 0, none⟩)] w (REPost w O C f k R m (evStep (s, z))) := by
  obtain ⟨r, hr⟩ : ∃ r, r = evStep (s, z) := ⟨_, rfl⟩
  rw [← hr]
  rw [evStep_3 s z hl] at hr
  obtain ⟨ln, t, h, n, ref, mk, o⟩ := z
  dsimp only at hl
  subst hl
  obtain ⟨p, a, u, hx, c1, c2, c3, c4, c5, c6⟩ := hX.ex
  dsimp only at c1 c2 c3 c4 c5 c6 hr
  have HM : Hid (Md k (k + 3) w O w O C f s m k R (reCs ⟨3, t, h, n, ref, mk, o⟩ p a u)) := Lib.hid (Md.start hhi hW hx)
  have x0 := hx.c 0 _ rfl
  dsimp only at x0
  unfold REPost
  have HR := Lib.hid hr

  have hn : n = 0 := c5 ⟨by decide, by decide⟩
  have hbd := hW.bd 4
  have h40 := hbd.1
  have t0 := hz.t0
  have t1 := hz.t1
  dsimp only at t0 t1
  have hsp := plSpots_bd t
  have HS := Lib.hid (fun (W : World) (g : W.cell? ⟨R, 5, none⟩ = some (.int .u64 t)) => c_reMany t g t0 t1)
  obtain ⟨N, hN⟩ : ∃ N, N = plSpots t := ⟨_, rfl⟩
  rw [← hN] at HS HR hsp
  have dz : (N == 0) = false := by rw [beq_eq_false_iff_ne]; omega
  have dz2 : ¬ N = 0 := by omega
  have dz3 : 0 < N := by omega
  have wa : IntKind.u64.wrap N = N := by rw [IntKind.wrap_u64]; omega
  have wc : IntKind.u64.wrap (s.M 4 % N) = s.M 4 % N := by
    have := Int.emod_nonneg (s.M 4) (show N ≠ 0 by omega)
    have := Int.emod_lt_of_pos (s.M 4) (show 0 < N by omega)
    rw [IntKind.wrap_u64]; omega
  have htm : (s.M 4).tmod N = s.M 4 % N := Int.tmod_eq_emod_of_nonneg h40
  clear hW hX hx hhi c1 c2 c3 c4 c5 c6 hr hz hN t0 t1
  go_enter Tryz.func61, Tryz.ntmps61
  go_wp2_with fail
  refine (c_rwLoad 4 HM.out.p (by omega) (by decide) (by decide) HM.out.e.hi n0 n1).mono ?_
  rintro e w2 ⟨rfl, G2, e2, P2⟩
  have M2 := Lib.hid (HM.out.world hk e2 P2)
  have y5 := M2.out.t.c 5 _ rfl
  have y6 := M2.out.t.c 6 _ rfl
  have f6 := M2.out.t.f 6
  have M3 := Lib.hid (M2.out.set hk (Nat.le_refl _) (by omega) 6 (.int .u64 (s.M 4 % N)) (by simp [reCs]))
  clear e2 P2 x0
  go_wp2_with fail
  refine (HS.out _ y5).mono ?_
  rintro e w' ⟨rfl, rfl⟩

  have y0 := M3.out.t.c 0 _ rfl
  have f0 := M3.out.t.f 0
  have M4 := Lib.hid (M3.out.set hk (Nat.le_refl _) (by omega) 0 (.int .i64 4) (by simp [reCs]))

  go_wp2_with fail
  go_end0
  subst hn
  rw [HR.out]
  exact ⟨rfl, _, M4.out.e, M4.out.p, ReAt.simple p a u M4.out.t (fun g => absurd g (by dsimp only; omega)) (fun g => absurd g (by dsimp only; omega)) (by dsimp only; omega) (fun g => absurd g (by dsimp only; omega))⟩
set_option maxHeartbeats 4000000 in
set_option maxRecDepth 100000 in
theorem c_re4 {z : Evm} (hW : RW w O C f s m) (hX : ReAt w O k R z) (hz : EvOk z) (hl : z.ln = 4) (hk : 10 ≤ k) (hm : m ≤ 900000) (hhi : ∀ j, O j ≠ 0 → j < w.heap.size) (n0 : 0 ≤ s.n) (n1 : s.n ≤ 4611686018427387904) :
    Calls Tryz.prog 61 #[.pointer (some ⟨R, 0, none⟩), .pointer (some ⟨C.p, 0, none⟩)] w (REPost w O C f k R m (evStep (s, z))) := by
  obtain ⟨r, hr⟩ : ∃ r, r = evStep (s, z) := ⟨_, rfl⟩
  rw [← hr]
  rw [evStep_4 s z hl] at hr
  obtain ⟨ln, t, h, n, ref, mk, o⟩ := z
  dsimp only at hl
  subst hl
  obtain ⟨p, a, u, hx, c1, c2, c3, c4, c5, c6⟩ := hX.ex
  dsimp only at c1 c2 c3 c4 c5 c6 hr
  have HM : Hid (Md k (k + 3) w O w O C f s m k R (reCs ⟨4, t, h, n, ref, mk, o⟩ p a u)) := Lib.hid (Md.start hhi hW hx)
  have x0 := hx.c 0 _ rfl
  dsimp only at x0
  unfold REPost
  have hrr : r = (awLoad (evSpot ⟨4, t, h, n, ref, mk, o⟩).item s, if evRef s ⟨4, t, h, n, ref, mk, o⟩ = 0 then evNext ⟨4, t, h, n, 0, mk, o⟩ else ⟨5, t, h, n, evRef s ⟨4, t, h, n, ref, mk, o⟩, mk, o⟩) := hr
  clear hr
  have hr := hrr
  clear hrr

  obtain ⟨l0, l1, t0, t1, h0, h1, m0, m1, m2, r0, r1, k0, k1, w0, w1, o8⟩ := hz
  dsimp only at t0 t1 h0 h1 m0 m1 m2 r0 r1 k0 k1
  have h1 := h1 (.inl (by decide))
  have HT := Lib.hid (And.intro t0 (And.intro t1 (And.intro m0 m1)))
  obtain ⟨v, hv⟩ : ∃ v, v = plAt t (h + n) := ⟨_, rfl⟩
  have hvo : v.ok := by rw [hv]; exact plAt_ok _ _
  have HV := Lib.hid (And.intro hv hvo)

  have hw0 : IntKind.i64.wrap h = h := by simp [IntKind.wrap, IntKind.bits, IntKind.signed]; omega
  have hw1 : wrap64 (h + n) = h + n := by unfold wrap64; omega
  have hw2 : IntKind.i64.wrap (h + n) = h + n := by simp [IntKind.wrap, IntKind.bits, IntKind.signed]; omega
  have hw3 : wrap64 h = h := by unfold wrap64; omega
  have HA : Hid (∀ W, Calls Tryz.prog 119 #[.int .u64 t, .int .i64 (h + n)] W fun e w' => e = .returned (.agg #[.int .i64 v.b, .int .i64 v.q, .int .i64 v.s]) ∧ Below W.heap.size W w') := Lib.hid (by rw [hv]; exact fun W => c_rPlAt t (h + n) W t0 t1 (by omega) (by omega))
  have hit := hvo.item
  have hq2 := hvo.q2
  have HI := Lib.hid (fun W => c_rItem v.b v.q v.s W (by have := hvo.b0; omega) (by have := hvo.b1; omega) (by have := hvo.q0; omega) (by omega) (by have := hvo.s0; omega) (by have := hvo.s1; omega))
  obtain ⟨ia, hia⟩ : ∃ ia, ia = v.item := ⟨_, rfl⟩
  have hia2 : plItem v.b v.q v.s = ia := hia.symm
  rw [hia2] at HI
  rw [← hia] at hit
  have es : (evSpot ⟨4, t, h, n, ref, mk, o⟩).item = ia := by rw [hia, hv]; rfl
  have er : evRef s ⟨4, t, h, n, ref, mk, o⟩ = wrap64 (s.M ia) := by unfold evRef; rw [es]
  rw [es, er] at hr
  obtain ⟨r', hr'⟩ : ∃ r, r = wrap64 (s.M ia) := ⟨_, rfl⟩
  rw [← hr'] at hr
  have hr1 : wrap64 (s.M ia) = r' := hr'.symm
  have hr2 : IntKind.i64.wrap (s.M ia) = r' := by rw [hr']; unfold wrap64; simp [IntKind.wrap, IntKind.bits, IntKind.signed]; omega
  have hia0 : 0 ≤ ia ∧ ia < 18446744073709551616 := by omega
  have HR := Lib.hid hr
  obtain ⟨vb, hvb⟩ : ∃ z, z = v.b := ⟨_, rfl⟩
  obtain ⟨vq, hvq⟩ : ∃ z, z = v.q := ⟨_, rfl⟩
  obtain ⟨vs, hvs⟩ : ∃ z, z = v.s := ⟨_, rfl⟩
  rw [← hvb, ← hvq, ← hvs] at HI HA
  have HB := Lib.hid (And.intro hvb (And.intro hvq hvs))
  have x5 := hx.c 5 _ rfl
  have x6 := hx.c 6 _ rfl
  have x7 := hx.c 7 _ rfl
  dsimp only at x5 x6 x7
  clear hr' hia hia2 es er hit hq2 hvb hvq hvs
  clear hW hX hx hhi c1 c2 c3 c4 c5 c6 hr hvo hv l0 l1 t0 t1 h0 h1 m0 m1 m2 r0 r1 k0 k1 w0 w1 o8
  go_enter Tryz.func61, Tryz.ntmps61
  go_wp2_with fail
  go_region_held3 (fun w' => w'.cell? ⟨R, 5, none⟩ = some (.int .u64 t) ∧ w'.cell? ⟨R, 6, none⟩ = some (.int .u64 h) ∧ w'.cell? ⟨R, 7, none⟩ = some (.int .i64 n)) (go_keep)
    ((go_at_call 119
      refine (HA.out _).mono ?_
      rintro e w1 ⟨rfl, hb1⟩
      have M1 := Lib.hid (HM.out.drew.below hb1)
      have y5 := M1.out.t.c 5 _ rfl
      have y6 := M1.out.t.c 6 _ rfl
      have y7 := M1.out.t.c 7 _ rfl
      have y2 := M1.out.t.c 2 _ rfl
      have y3 := M1.out.t.c 3 _ rfl
      have y4 := M1.out.t.c 4 _ rfl
      have f2 := M1.out.t.f 2
      have f3 := M1.out.t.f 3
      have f4 := M1.out.t.f 4
      have A1 := M1.out.set hk (Nat.le_refl _) (by omega) 2 (.int .i64 vb) (by simp [reCs])
      have A2 := A1.set hk (Nat.le_refl _) (by omega) 3 (.int .i64 vq) (by simp [reCs])
      have M2 := Lib.hid (A2.set hk (Nat.le_refl _) (by omega) 4 (.int .i64 vs) (by simp [reCs]))
      have z5 := M2.out.t.c 5 _ rfl
      have z6 := M2.out.t.c 6 _ rfl
      have z7 := M2.out.t.c 7 _ rfl
      clear hb1 A1 A2))
  all_goals
    clear x5 x6 x7
    go_upto_region 13 with fail
    obtain ⟨w2, hw2'⟩ : ∃ w2, w2 = ((w1.setCell ⟨R, 2, none⟩ (.int .i64 vb)).setCell ⟨R, 3, none⟩ (.int .i64 vq)).setCell ⟨R, 4, none⟩ (.int .i64 vs) := ⟨_, rfl⟩
    rw [← hw2'] at M2 ⊢
    clear z5 z6 z7 hw2' y5 y6 y7 y2 y3 y4 f2 f3 f4 x0 M1
    have y2 := M2.out.t.c 2 _ rfl
    have y3 := M2.out.t.c 3 _ rfl
    have y4 := M2.out.t.c 4 _ rfl
    go_wp2_with fail
    refine (HI.out _).mono ?_
    rintro e w3 ⟨rfl, hb3⟩
    have M3 := Lib.hid (M2.out.below hb3)
    clear hb3 y2 y3 y4
    go_wp2_with fail
    refine (c_rwLoad ia M3.out.p (by omega) hia0.1 hia0.2 M3.out.e.hi n0 n1).mono ?_
    rintro e w4 ⟨rfl, G4, e4, P4⟩
    have M4 := Lib.hid (M3.out.world hk e4 P4)
    have y1 := M4.out.t.c 1 _ rfl
    have f1 := M4.out.t.f 1
    have M5 := Lib.hid (M4.out.set hk (Nat.le_refl _) (by omega) 1 (.int .i64 r') (by simp [reCs]))
    have y0 := M5.out.t.c 0 _ rfl
    have f0 := M5.out.t.f 0
    have M6 := Lib.hid (M5.out.set hk (Nat.le_refl _) (by omega) 0 (.int .i64 5) (by simp [reCs]))

    clear e4 P4
    go_upto_region 15 with fail
    obtain ⟨w6, hw6⟩ : ∃ w6, w6 = (w4.setCell ⟨R, 1, none⟩ (.int .i64 r')).setCell ⟨R, 0, none⟩ (.int .i64 5) := ⟨_, rfl⟩
    rw [← hw6] at M6 ⊢
    clear y1 f1 y0 f0 hw6 hr1 hr2
    have y1 := M6.out.t.c 1 _ rfl
    have hvE : v = ⟨vb, vq, vs⟩ := by rw [HB.out.1, HB.out.2.1, HB.out.2.2]
    have HVE := Lib.hid hvE
    clear hvE
    by_cases hr0 : r' = 0
    · subst hr0
      go_wp2_with fail
      refine (c_reNext ⟨5, t, h, n, 0, mk, o⟩ ⟨vb, vq, vs⟩ a u M6.out.t HT.out.1 HT.out.2.1 HT.out.2.2.1 HT.out.2.2.2 hk M6.out.e.hi).mono ?_
      rintro e w9 ⟨rfl, G9, e9, p9, x9, hp9⟩
      have P9 := M6.out.p.ext e9 (by omega) (by omega) (by omega) (by omega)
      have E9 := M6.out.e.trans (e9.mono (T := SD k (k + 3)) fun t _ ht => .inr (by omega))
      have HE := Lib.hid (And.intro P9 (And.intro E9 (And.intro x9 hp9)))
      clear P9 E9 x9 hp9 e9
      go_wp2_with fail
      go_end0
      rw [HR.out]

      exact ⟨rfl, _, HE.out.2.1, HE.out.1, ReAt.next ⟨4, t, h, n, 0, mk, o⟩ p9 a u HE.out.2.2.1 HE.out.2.2.2⟩
    · have dr : (r' == 0) = false := by simp [hr0]
      have HR0 := Lib.hid hr0
      clear hr0
      go_wp2_with fail
      go_end0
      have hR := HR.out
      rw [if_neg HR0.out] at hR
      rw [hR]
      exact ⟨rfl, _, M6.out.e, M6.out.p, ReAt.simple ⟨vb, vq, vs⟩ a u M6.out.t (fun _ => ⟨by rw [← HVE.out]; exact HV.out.1, HR0.out⟩) (fun g => absurd g (by dsimp only; omega)) (by dsimp only; omega) (fun g => absurd g (by dsimp only; omega))⟩
set_option maxHeartbeats 4000000 in
set_option maxRecDepth 100000 in
theorem c_re5 {z : Evm} (hW : RW w O C f s m) (hX : ReAt w O k R z) (hz : EvOk z) (hl : z.ln = 5) (hk : 10 ≤ k) (hm : m ≤ 900000) (hhi : ∀ j, O j ≠ 0 → j < w.heap.size) (n0 : 0 ≤ s.n) (n1 : s.n ≤ 4611686018427387904) :
    Calls Tryz.prog 61 #[.pointer (some ⟨R, 0, none⟩), .pointer (some ⟨C.p, 0, none⟩)] w (REPost w O C f k R m (evStep (s, z))) := by
  obtain ⟨r, hr⟩ : ∃ r, r = evStep (s, z) := ⟨_, rfl⟩
  rw [← hr]
  rw [evStep_5 s z hl] at hr
  obtain ⟨ln, t, h, n, ref, mk, o⟩ := z
  dsimp only at hl
  subst hl
  obtain ⟨p, a, u, hx, c1, c2, c3, c4, c5, c6⟩ := hX.ex
  dsimp only at c1 c2 c3 c4 c5 c6 hr
  have HM : Hid (Md k (k + 3) w O w O C f s m k R (reCs ⟨5, t, h, n, ref, mk, o⟩ p a u)) := Lib.hid (Md.start hhi hW hx)
  have x0 := hx.c 0 _ rfl
  dsimp only at x0
  unfold REPost
  have hp : p = plAt t (h + n) := (c1 ⟨by decide, by decide⟩).1
  have hr00 := (c1 ⟨by decide, by decide⟩).2
  have H00 := Lib.hid hr00
  have hpo : p.ok := by rw [hp]; exact plAt_ok _ _
  obtain ⟨l0, l1, t0, t1, h0, h1, m0, m1, m2, r0, r1, k0, k1, w0, w1, o8⟩ := hz
  dsimp only at t0 t1 h0 h1 m0 m1 m2 r0 r1 k0 k1 w0 w1
  have h1 := h1 (.inl (by decide))
  have HT := Lib.hid (And.intro t0 (And.intro t1 (And.intro m0 m1)))
  have HP := Lib.hid (And.intro hp hpo)

  have hrf : 0 ≤ plRef ref ∧ plRef ref < 18446744073709551616 := by unfold plRef; split <;> omega
  have HRf := Lib.hid (fun W => c_rRef ref W r0 r1)
  obtain ⟨ra, hra⟩ : ∃ ra, ra = plRef ref := ⟨_, rfl⟩
  rw [← hra] at hrf HRf hr
  have hmb := hW.bd ra
  obtain ⟨mv, hmv⟩ : ∃ mv, mv = s.M ra := ⟨_, rfl⟩
  rw [← hmv] at hmb hr
  have htm : mv.tmod 2 = mv % 2 := Int.tmod_eq_emod_of_nonneg hmb.1
  have hwm : IntKind.u64.wrap (mv % 2) = mv % 2 := by rw [IntKind.wrap_u64]; omega
  have HL := Lib.hid (c_rwLoad ra hW (by omega) hrf.1 hrf.2 hhi n0 n1)
  rw [← hmv] at HL
  have HR := Lib.hid hr
  have x1 := hx.c 1 _ rfl
  dsimp only at x1
  clear hra hmv
  clear hr00 hW hX hx hhi c1 c2 c3 c4 c5 c6 hr hp hpo l0 l1 t0 t1 h0 h1 m0 m1 m2 r0 r1 k0 k1 w0 w1 o8
  go_enter Tryz.func61, Tryz.ntmps61
  go_wp2_with fail
  refine (HRf.out _).mono ?_
  rintro e w' ⟨rfl, rfl⟩
  go_wp2_with fail
  refine HL.out.mono ?_
  rintro e w3 ⟨rfl, G3, e3, P3⟩
  have M3 := Lib.hid (HM.out.world hk e3 P3)
  have y8 := M3.out.t.c 8 _ rfl
  have f8 := M3.out.t.f 8
  have M4 := Lib.hid (M3.out.set hk (Nat.le_refl _) (by omega) 8 (.int .u64 mv) (by simp [reCs]))

  have y0 := M4.out.t.c 0 _ rfl
  have f0 := M4.out.t.f 0
  have M5 := Lib.hid (M4.out.set hk (Nat.le_refl _) (by omega) 0 (.int .i64 6) (by simp [reCs]))

  clear e3 P3 x0 x1
  go_upto_region 20 with fail
  obtain ⟨w5, hw5⟩ : ∃ w5, w5 = (w3.setCell ⟨R, 8, none⟩ (.int .u64 mv)).setCell ⟨R, 0, none⟩ (.int .i64 6) := ⟨_, rfl⟩
  rw [← hw5] at M5 ⊢
  clear hw5 y8 f8 y0 f0
  have y8 := M5.out.t.c 8 _ rfl
  by_cases he : mv % 2 = 0
  · have de : (mv % 2 == 0) = true := by simp [he]
    have HE := Lib.hid he
    clear he
    have y2 := M5.out.t.c 2 _ rfl
    have y3 := M5.out.t.c 3 _ rfl
    obtain ⟨W5, hW5⟩ : ∃ W5, W5 = w5.alloc (.cells #[.int .i64 p.b, .int .i64 p.q] 43) := ⟨_, rfl⟩
    have bW5 : Below w5.heap.size w5 W5 := by rw [hW5]; exact (Below.refl _ _).alloc (Nat.le_refl _) _
    have N5 := Lib.hid (M5.out.below bW5)
    have u0 : W5.cell? ⟨w5.heap.size, 0, none⟩ = some (.int .i64 p.b) := by rw [hW5]; simp
    have u1 : W5.cell? ⟨w5.heap.size, 0 + 1, none⟩ = some (.int .i64 p.q) := by rw [hW5]; simp
    have ul : w5.heap.size < W5.heap.size := by rw [hW5]; simp
    go_wp2_with fail
    rw [← hW5]
    clear hW5
    refine (c_rNewMark1 p HP.out.2 (b := w5.heap.size) (o := 0) (c := 1) (k + 1) (by omega) ⟨Nat.le_refl _, by unfold maxLen; omega⟩ ul u0 u1 N5.out.e.hi).mono ?_
    clear u0 u1 ul y2 y3 y8
    rintro e w6 ⟨A, rfl, G6, e6, a6⟩
    have M6 := Lib.hid (N5.out.oth hk e6 (fun t h => by omega))
    have A6 := Lib.hid a6
    clear e6 a6 bW5

    have y9 := M6.out.t.c 9 _ rfl
    have f9 := M6.out.t.f 9
    have E1 := ext_set (j := 9) (v := .pointer (some ⟨A, 0, none⟩)) M6.out.e.hi M6.out.t hk
    have M7 := M6.out.set hk (Nat.le_refl _) (by omega) 9 (.pointer (some ⟨A, 0, none⟩)) (by simp [reCs])
    have y0 := M6.out.t.c 0 _ rfl
    have f0 := M6.out.t.f 0
    have E2 := ext_set (j := 0) (v := .int .i64 7) M7.e.hi M7.t hk
    have M8 := Lib.hid (M7.set hk (Nat.le_refl _) (by omega) 0 (.int .i64 7) (by simp [reCs]))
    have EE := Lib.hid (E1.trans E2)
    clear E1 M7 E2
    go_wp2_with fail
    go_end0
    have hR := HR.out
    rw [if_pos HE.out] at hR
    rw [hR]
    have hA := A6.out.ext EE.out (by omega) (by omega)
    refine ⟨rfl, _, M8.out.e, M8.out.p, p, some ⟨A, 0, none⟩, u, M8.out.t, fun _ => ⟨HP.out.1, H00.out⟩, (fun g => absurd g (by dsimp only; omega)), fun _ => ⟨A, rfl, by rw [HP.out.1] at hA; exact hA⟩, (fun g => absurd g (by dsimp only; omega)), (fun g => absurd g (by dsimp only; omega)), fun _ => ⟨rfl, rfl⟩⟩

  · have de : (mv % 2 == 0) = false := by simp [he]
    have HE := Lib.hid he
    clear he
    go_wp2_with fail
    go_end0
    have hR := HR.out
    rw [if_neg HE.out] at hR
    rw [hR]
    exact ⟨rfl, _, M5.out.e, M5.out.p, ReAt.simple p a u M5.out.t (fun _ => ⟨HP.out.1, H00.out⟩) (fun g => absurd g (by dsimp only; omega)) (by dsimp only; omega) (fun g => absurd g (by dsimp only; omega))⟩
set_option maxHeartbeats 4000000 in
set_option maxRecDepth 100000 in
theorem c_re6 {z : Evm} (hW : RW w O C f s m) (hX : ReAt w O k R z) (hz : EvOk z) (hl : z.ln = 6) (hk : 10 ≤ k) (hm : m ≤ 900000) (hhi : ∀ j, O j ≠ 0 → j < w.heap.size) (n0 : 0 ≤ s.n) (n1 : s.n ≤ 4611686018427387904) :
    Calls Tryz.prog 61 #[.pointer (some ⟨R, 0, none⟩), .pointer (some ⟨C.p, 0, none⟩)] w (REPost w O C f k R m (evStep (s, z))) := by
  obtain ⟨r, hr⟩ : ∃ r, r = evStep (s, z) := ⟨_, rfl⟩
  rw [← hr]
  rw [evStep_6 s z hl] at hr
  obtain ⟨ln, t, h, n, ref, mk, o⟩ := z
  dsimp only at hl
  subst hl
  obtain ⟨p, a, u, hx, c1, c2, c3, c4, c5, c6⟩ := hX.ex
  dsimp only at c1 c2 c3 c4 c5 c6 hr
  have HM : Hid (Md k (k + 3) w O w O C f s m k R (reCs ⟨6, t, h, n, ref, mk, o⟩ p a u)) := Lib.hid (Md.start hhi hW hx)
  have x0 := hx.c 0 _ rfl
  dsimp only at x0
  unfold REPost
  have hp : p = plAt t (h + n) := (c1 ⟨by decide, by decide⟩).1
  have hr00 := (c1 ⟨by decide, by decide⟩).2
  have H00 := Lib.hid hr00
  have hpo : p.ok := by rw [hp]; exact plAt_ok _ _
  obtain ⟨l0, l1, t0, t1, h0, h1, m0, m1, m2, r0, r1, k0, k1, w0, w1, o8⟩ := hz
  dsimp only at t0 t1 h0 h1 m0 m1 m2 r0 r1 k0 k1 w0 w1
  have h1 := h1 (.inl (by decide))
  have HT := Lib.hid (And.intro t0 (And.intro t1 (And.intro m0 m1)))
  have HP := Lib.hid (And.intro hp hpo)

  have hrf : 0 ≤ plRef ref ∧ plRef ref < 18446744073709551616 := by unfold plRef; split <;> omega
  have hmb : 0 ≤ (mk + 1) % 18446744073709551616 ∧ (mk + 1) % 18446744073709551616 < 18446744073709551616 := by omega
  have HRf := Lib.hid (fun W => c_rRef ref W r0 r1)
  obtain ⟨ra, hra⟩ : ∃ ra, ra = plRef ref := ⟨_, rfl⟩
  rw [← hra] at hrf HRf hr
  obtain ⟨nm, hnm⟩ : ∃ nm, nm = (mk + 1) % 18446744073709551616 := ⟨_, rfl⟩
  rw [← hnm] at hmb hr
  have hnm2 : IntKind.u64.wrap (mk + 1) = nm := by rw [IntKind.wrap_u64]; exact hnm.symm
  have HR := Lib.hid hr
  have x1 := hx.c 1 _ rfl
  have x8 := hx.c 8 _ rfl
  dsimp only at x1 x8
  clear hra hnm
  clear hr00 hW hX hx hhi c1 c2 c3 c4 c5 c6 hr hp hpo l0 l1 t0 t1 h0 h1 m0 m1 m2 r0 r1 k0 k1 w0 w1 o8
  go_enter Tryz.func61, Tryz.ntmps61
  go_wp2_with fail
  go_region_held3 (fun w' => w'.cell? ⟨R, 1, none⟩ = some (.int .i64 ref) ∧ w'.cell? ⟨R, 8, none⟩ = some (.int .u64 mk)) (go_keep)
    ((first
      | (go_at_call 65
         refine (HRf.out _).mono ?_
         rintro e w1 ⟨rfl, rfl⟩)
      | (go_at_call 116
         refine (c_rwStore ra nm (w := w.drew) HM.out.drew.p (by omega) hrf.1 hrf.2 hmb.1 hmb.2 HM.out.drew.e.hi n0 n1).mono ?_
         rintro e w2 ⟨rfl, G2, e2, P2⟩
         have M2 := Lib.hid (HM.out.drew.world hk e2 P2)
         have y1 := M2.out.t.c 1 _ rfl
         have y8 := M2.out.t.c 8 _ rfl
         clear e2 P2)))
  all_goals
    clear x0 x1 x8 y1 y8
    go_wp2_with fail
    refine (c_reNext ⟨6, t, h, n, ref, mk, o⟩ p a u M2.out.t HT.out.1 HT.out.2.1 HT.out.2.2.1 HT.out.2.2.2 hk M2.out.e.hi).mono ?_
    rintro e w9 ⟨rfl, G9, e9, p9, x9, hp9⟩
    have P9 := M2.out.p.ext e9 (by omega) (by omega) (by omega) (by omega)
    have E9 := M2.out.e.trans (e9.mono (T := SD k (k + 3)) fun t _ ht => .inr (by omega))
    have HE := Lib.hid (And.intro P9 (And.intro E9 (And.intro x9 hp9)))
    clear P9 E9 x9 hp9 e9
    go_wp2_with fail
    go_end0
    rw [HR.out]

    exact ⟨rfl, _, HE.out.2.1, HE.out.1, ReAt.next ⟨6, t, h, n, ref, mk, o⟩ p9 a u HE.out.2.2.1 HE.out.2.2.2⟩
end
end Go.Proofs.YtlcibfpibklbdaaGreat
