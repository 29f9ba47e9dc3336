/- Layer 23: the document's Evict's line 11, its Step, Got. -/
import Derived.Test.YtlcibfpibklbdaaGreatRg
import Derived.Test.YtlcibfpibklbdaaGreatHd4
import Derived.StillTailTactics
namespace Go.Proofs.YtlcibfpibklbdaaGreat
set_option linter.unusedSimpArgs false
open Go.RowKit Go.Shelf
set_option linter.unusedVariables false

section
variable {R : Nat} {w : World} {O : Om} {C : Wb} {f : Cf} {s : AW} {m k : Nat}
set_option maxHeartbeats 4000000 in
set_option maxRecDepth 100000 in
theorem c_re11a {z : Evm} (hW : RW w O C f s m) (hX : ReAt w O k R z) (hz : EvOk z) (hl : z.ln = 11) (href : z.ref = 0) (hk : 10 ≤ k) (hm : m ≤ 900000) (hhi : ∀ j, O j ≠ 0 → j < w.heap.size) (n0 : 0 ≤ s.n) (n1 : s.n ≤ 4611686018427387904) :
    Calls Tryz.prog 123 #[.pointer (some ⟨R, 0, none⟩), .pointer (some ⟨C.p, 0, none⟩)] w (REPost w O C f k R m (evStep (s, z))) := by
  obtain ⟨r, hr⟩ : ∃ r, r = evStep (s, z) := ⟨_, rfl⟩
  rw [← hr]
  rw [evStep_11 s z hl] at hr
  obtain ⟨ln, t, h, n, ref, mk, o⟩ := z
  dsimp only at hl
  subst hl
  obtain ⟨p, a, u, hx, c1, c2, c3, c4, c5, c6⟩ := hX.ex
  dsimp only at c1 c2 c3 c4 c5 c6 hr
  have HM : Hid (Md k (k + 3) w O w O C f s m k R (reCs ⟨11, t, h, n, ref, mk, o⟩ p a u)) := Lib.hid (Md.start hhi hW hx)
  have x0 := hx.c 0 _ rfl
  dsimp only at x0
  unfold REPost
  have h2 := c2 (by decide)
  obtain ⟨l0, l1, t0, t1, h0, h1, m0, m1, m2, r0, r1, k0, k1, w0, w1, o8⟩ := hz
  dsimp only at t0 t1 h0 h1 m0 m1 m2 r0 r1 k0 k1 w0 w1 href
  have h1 := h1 (.inl (by decide))
  have x1 := hx.c 1 _ rfl
  have x6 := hx.c 6 _ rfl
  have x7 := hx.c 7 _ rfl
  have x5 := hx.c 5 _ rfl
  dsimp only at x1 x6 x7 x5

  subst href
  rw [if_pos rfl] at hr h2
  have HR := Lib.hid hr
  have H2 := Lib.hid h2
  have HS := Lib.hid (c_rwStore 4 h hW (by omega) (by decide) (by decide) h0 (by omega) hhi n0 n1)
  clear h2
  clear hW hX hx hhi c1 c2 c3 c4 c5 c6 hr l0 l1 t0 t1 h0 h1 m0 m1 m2 r0 r1 k0 k1 w0 w1 o8
  go_enter Tryz.func123, Tryz.ntmps123
  go_wp2_with fail
  refine HS.out.mono ?_
  rintro e w2 ⟨rfl, G2, e2, P2⟩
  have M2 := Lib.hid (HM.out.world hk e2 P2)
  have y7 := M2.out.t.c 7 _ rfl
  clear HS e2 P2 x0 x1 x5 x6 x7
  go_wp2_with fail
  refine (c_rwNote 8 0 0 0 0 n M2.out.p M2.out.e.hi (by decide) (by decide)).mono ?_
  rintro e w3 ⟨rfl, G3, e3, P3⟩
  have M3 := Lib.hid (M2.out.world hk e3 P3)
  clear e3 P3 y7

  have y0 := M3.out.t.c 0 _ rfl
  have f0 := M3.out.t.f 0
  have M4 := Lib.hid (M3.out.set hk (Nat.le_refl _) (by omega) 0 (.int .i64 12) (by simp [reCs]))

  go_wp2_with fail
  go_end0
  rw [HR.out]
  exact ⟨rfl, _, M4.out.e, M4.out.p, ReAt.simple p a u M4.out.t (fun g => absurd g (by dsimp only; omega)) (fun _ => by rw [if_pos rfl]; exact H2.out) (by dsimp only; omega) (fun g => absurd g (by dsimp only; omega))⟩
set_option maxHeartbeats 4000000 in
set_option maxRecDepth 100000 in
theorem c_re11b {z : Evm} (hW : RW w O C f s m) (hX : ReAt w O k R z) (hz : EvOk z) (hl : z.ln = 11) (href : z.ref ≠ 0) (hk : 10 ≤ k) (hm : m ≤ 900000) (hhi : ∀ j, O j ≠ 0 → j < w.heap.size) (n0 : 0 ≤ s.n) (n1 : s.n ≤ 4611686018427387904) :
    Calls Tryz.prog 123 #[.pointer (some ⟨R, 0, none⟩), .pointer (some ⟨C.p, 0, none⟩)] w (REPost w O C f k R m (evStep (s, z))) := by
  obtain ⟨r, hr⟩ : ∃ r, r = evStep (s, z) := ⟨_, rfl⟩
  rw [← hr]
  rw [evStep_11 s z hl] at hr
  obtain ⟨ln, t, h, n, ref, mk, o⟩ := z
  dsimp only at hl
  subst hl
  obtain ⟨p, a, u, hx, c1, c2, c3, c4, c5, c6⟩ := hX.ex
  dsimp only at c1 c2 c3 c4 c5 c6 hr
  have HM : Hid (Md k (k + 3) w O w O C f s m k R (reCs ⟨11, t, h, n, ref, mk, o⟩ p a u)) := Lib.hid (Md.start hhi hW hx)
  have x0 := hx.c 0 _ rfl
  dsimp only at x0
  unfold REPost
  have h2 := c2 (by decide)
  obtain ⟨l0, l1, t0, t1, h0, h1, m0, m1, m2, r0, r1, k0, k1, w0, w1, o8⟩ := hz
  dsimp only at t0 t1 h0 h1 m0 m1 m2 r0 r1 k0 k1 w0 w1 href
  have h1 := h1 (.inl (by decide))
  have x1 := hx.c 1 _ rfl
  have x6 := hx.c 6 _ rfl
  have x7 := hx.c 7 _ rfl
  have x5 := hx.c 5 _ rfl
  dsimp only at x1 x6 x7 x5

  rw [if_neg href] at hr h2
  have dr : (ref == 0) = false := by simp [href]
  have hsp := plSpots_bd t
  have HS := Lib.hid (c_reMany (R := R) (w := w.drew) t (HM.out.drew.t.c 5 _ rfl) t0 t1)
  obtain ⟨N, hN⟩ : ∃ N, N = plSpots t := ⟨_, rfl⟩
  rw [← hN] at HS hr hsp
  have dz : (N == 0) = false := by rw [beq_eq_false_iff_ne]; omega
  have dz2 : ¬ N = 0 := by omega
  have dz3 : 0 < N := by omega
  have hv0 := Int.emod_nonneg (h + n + 1) (show N ≠ 0 by omega)
  have hv1 := Int.emod_lt_of_pos (h + n + 1) (show 0 < N by omega)
  have wa : IntKind.u64.wrap N = N := by rw [IntKind.wrap_u64]; omega
  have wn : IntKind.u64.wrap n = n := by rw [IntKind.wrap_u64]; omega
  have ws : IntKind.u64.wrap (h + n) = h + n := by rw [IntKind.wrap_u64]; omega
  have ws1 : IntKind.u64.wrap (h + n + 1) = h + n + 1 := by rw [IntKind.wrap_u64]; omega
  have htm : (h + n + 1).tmod N = (h + n + 1) % N := Int.tmod_eq_emod_of_nonneg (by omega)
  obtain ⟨v, hv⟩ : ∃ v, v = (h + n + 1) % N := ⟨_, rfl⟩
  rw [← hv] at hr hv0 hv1 htm
  have wv : IntKind.u64.wrap v = v := by rw [IntKind.wrap_u64]; omega
  have wi1 : wrap64 (n + 1) = n + 1 := by unfold wrap64; omega
  have wi2 : IntKind.i64.wrap (n + 1) = n + 1 := by simp [IntKind.wrap, IntKind.bits, IntKind.signed]; omega
  obtain ⟨pb, hpb⟩ : ∃ z, z = p.b := ⟨_, rfl⟩
  obtain ⟨pq, hpq⟩ : ∃ z, z = p.q := ⟨_, rfl⟩
  obtain ⟨ps, hps⟩ : ∃ z, z = p.s := ⟨_, rfl⟩
  have es : evSpot ⟨11, t, h, n, ref, mk, o⟩ = p := h2.symm
  rw [es, ← hpb, ← hpq, ← hps] at hr
  have HQ := Lib.hid (And.intro hpb (And.intro hpq hps))
  have HR := Lib.hid hr
  have H2 := Lib.hid h2
  have HF := Lib.hid href
  have HL := Lib.hid (c_rwStore 4 v (w := w.drew) HM.out.drew.p (by omega) (by decide) (by decide) hv0 (by omega) HM.out.drew.e.hi n0 n1)
  clear h2 hv hN hv0 hv1 es hpb hpq hps hsp href
  clear hW hX hx hhi c1 c2 c3 c4 c5 c6 hr l0 l1 t0 t1 h0 h1 m0 m1 m2 r0 r1 k0 k1 w0 w1 o8
  go_enter Tryz.func123, Tryz.ntmps123
  go_wp2_with fail
  go_region_held3 (fun w' => w'.cell? ⟨R, 6, none⟩ = some (.int .u64 h) ∧ w'.cell? ⟨R, 7, none⟩ = some (.int .i64 n)) (go_keep)
    ((first
      | (go_at_call 118
         refine HS.out.mono ?_
         rintro e w1 ⟨rfl, rfl⟩)
      | (go_at_call 116
         refine HL.out.mono ?_
         rintro e w2 ⟨rfl, G2, e2, P2⟩
         have M2 := Lib.hid (HM.out.drew.world hk e2 P2)
         have y6 := M2.out.t.c 6 _ rfl
         have y7 := M2.out.t.c 7 _ rfl
         clear e2 P2)))
  all_goals
    clear x0 x1 x6 x7 x5 y6 y7 wv htm ws ws1 wn wa dz dz2 dz3
    have y1 := M2.out.t.c 1 _ rfl
    have y2 := M2.out.t.c 2 _ rfl
    have y3 := M2.out.t.c 3 _ rfl
    have y4 := M2.out.t.c 4 _ rfl
    have y7 := M2.out.t.c 7 _ rfl
    rw [← HQ.out.1] at y2
    rw [← HQ.out.2.1] at y3
    rw [← HQ.out.2.2] at y4
    go_upto_region 23 with fail
    go_region_held3 (fun w' => w'.cell? ⟨R, 1, none⟩ = some (.int .i64 ref) ∧ w'.cell? ⟨R, 2, none⟩ = some (.int .i64 pb) ∧ w'.cell? ⟨R, 3, none⟩ = some (.int .i64 pq) ∧ w'.cell? ⟨R, 4, none⟩ = some (.int .i64 ps) ∧ w'.cell? ⟨R, 7, none⟩ = some (.int .i64 n)) (go_keep)
      ((go_at_call 140
        refine (c_rwNote 8 ref pb pq ps (n + 1) (w := w2.drew) M2.out.drew.p M2.out.drew.e.hi (by decide) (by decide)).mono ?_
        rintro e w3 ⟨rfl, G3, e3, P3⟩
        have M3 := Lib.hid (M2.out.drew.world hk e3 P3)
        have y13 := M3.out.t.c 1 _ rfl
        have y23 := M3.out.t.c 2 _ rfl
        have y33 := M3.out.t.c 3 _ rfl
        have y43 := M3.out.t.c 4 _ rfl
        have y73 := M3.out.t.c 7 _ rfl
        rw [← HQ.out.1] at y23
        rw [← HQ.out.2.1] at y33
        rw [← HQ.out.2.2] at y43
        clear e3 P3))
  all_goals
    clear y1 y2 y3 y4 y7 y13 y23 y33 y43 y73
    have y0 := M3.out.t.c 0 _ rfl
    have f0 := M3.out.t.f 0
    have M4 := Lib.hid (M3.out.set hk (Nat.le_refl _) (by omega) 0 (.int .i64 12) (by simp [reCs]))

    go_wp2_with fail
    go_end0
    rw [HR.out]
    exact ⟨rfl, _, M4.out.e, M4.out.p, ReAt.simple p a u M4.out.t (fun g => absurd g (by dsimp only; omega)) (fun _ => by rw [if_neg HF.out]; exact H2.out) (by dsimp only; omega) (fun g => absurd g (by dsimp only; omega))⟩
set_option maxRecDepth 100000 in
theorem c_reFound {z : Evm} (L : Evm → AW → Prop) (hX : ReAt w O k R z) (hl : 7 ≤ z.ln) (r : AW × Evm) (HF : Calls Tryz.prog 123 #[.pointer (some ⟨R, 0, none⟩), .pointer (some ⟨C.p, 0, none⟩)] w (REPost w O C f k R m r)) :
    Calls Tryz.prog 61 #[.pointer (some ⟨R, 0, none⟩), .pointer (some ⟨C.p, 0, none⟩)] w (REPost w O C f k R m r) := by
  obtain ⟨p, a, u, hx, -⟩ := hX.ex
  have x0 : w.cell? ⟨R, 0, none⟩ = some (.int .i64 z.ln) := hx.c 0 _ rfl
  obtain ⟨ln, hln⟩ : ∃ ln, ln = z.ln := ⟨_, rfl⟩
  rw [← hln] at x0 hl
  have d1 : (ln == 1) = false := by rw [beq_eq_false_iff_ne]; omega
  have d2 : (ln == 2) = false := by rw [beq_eq_false_iff_ne]; omega
  have d3 : (ln == 3) = false := by rw [beq_eq_false_iff_ne]; omega
  have d4 : (ln == 4) = false := by rw [beq_eq_false_iff_ne]; omega
  have d5 : (ln == 5) = false := by rw [beq_eq_false_iff_ne]; omega
  have d6 : (ln == 6) = false := by rw [beq_eq_false_iff_ne]; omega
  have H := Lib.hid HF
  clear HF hx hX hln hl
  unfold REPost at *
  go_enter Tryz.func61, Tryz.ntmps61
  go_wp2_with fail
  refine H.out.mono ?_
  rintro e w' ⟨rfl, G, hh⟩
  have HH := Lib.hid hh
  clear hh
  go_wp2_with fail
  go_end0
  exact ⟨rfl, G, HH.out⟩
set_option maxRecDepth 100000 in
theorem c_reFound0 {z : Evm} (hX : ReAt w O k R z) (hl : z.ln = 0) :
    Calls Tryz.prog 123 #[.pointer (some ⟨R, 0, none⟩), .pointer (some ⟨C.p, 0, none⟩)] w fun e w' => e = .returned (.tuple #[]) ∧ w = w' := by
  obtain ⟨p, a, u, hx, -⟩ := hX.ex
  have x0 : w.cell? ⟨R, 0, none⟩ = some (.int .i64 z.ln) := hx.c 0 _ rfl
  rw [hl] at x0
  clear hx hX hl
  go_enter Tryz.func123, Tryz.ntmps123
  go_wp2_with fail
  go_end0
  exact ⟨rfl, rfl⟩
set_option maxRecDepth 100000 in
theorem c_reStep0 {z : Evm} (hX : ReAt w O k R z) (hl : z.ln = 0) :
    Calls Tryz.prog 61 #[.pointer (some ⟨R, 0, none⟩), .pointer (some ⟨C.p, 0, none⟩)] w fun e w' => e = .returned (.tuple #[]) ∧ w = w' := by
  have H := Lib.hid (c_reFound0 (C := C) hX hl)
  obtain ⟨p, a, u, hx, -⟩ := hX.ex
  have x0 : w.cell? ⟨R, 0, none⟩ = some (.int .i64 z.ln) := hx.c 0 _ rfl
  rw [hl] at x0
  clear hx hX hl
  go_enter Tryz.func61, Tryz.ntmps61
  go_wp2_with fail
  refine H.out.mono ?_
  rintro e w' ⟨rfl, rfl⟩
  go_wp2_with fail
  go_end0
  exact ⟨rfl, rfl⟩
/-- The document's Evict's step. -/
theorem c_reStep {z : Evm} (hW : RW w O C f s m) (hX : ReAt w O k R z) (hz : EvOk z) (hk : 10 ≤ k) (hm : m ≤ 900000) (hhi : ∀ j, O j ≠ 0 → j < w.heap.size) (n0 : 0 ≤ s.n) (n1 : s.n ≤ 4611686018427387904) :
    Calls Tryz.prog 61 #[.pointer (some ⟨R, 0, none⟩), .pointer (some ⟨C.p, 0, none⟩)] w (REPost w O C f k R m (evStep (s, z))) := by
  have l0 := hz.l0
  have l1 := hz.l1
  by_cases e0 : z.ln = 0
  · rw [evStep_0 s z e0]
    refine (c_reStep0 hX e0).mono ?_
    rintro e w' ⟨rfl, rfl⟩
    exact ⟨rfl, O, Ext.refl hhi, hW.up (by omega), hX⟩
  have h : z.ln = 1 ∨ z.ln = 2 ∨ z.ln = 3 ∨ z.ln = 4 ∨ z.ln = 5 ∨ z.ln = 6 ∨ z.ln = 7 ∨ z.ln = 8 ∨ z.ln = 9 ∨ z.ln = 10 ∨ z.ln = 11 ∨ z.ln = 12 := by omega
  rcases h with h | h | h | h | h | h | h | h | h | h | h | h
  · exact c_re1 hW hX hz h hk hm hhi n0 n1
  · exact c_re2 hW hX hz h hk hm hhi n0 n1
  · exact c_re3 hW hX hz h hk hm hhi n0 n1
  · exact c_re4 hW hX hz h hk hm hhi n0 n1
  · exact c_re5 hW hX hz h hk hm hhi n0 n1
  · exact c_re6 hW hX hz h hk hm hhi n0 n1
  · exact c_reFound (fun _ _ => True) hX (by omega) _ (c_re7 hW hX hz h hk hm hhi n0 n1)
  · have ho := hz.o8 (.inr h)
    have ho3 : z.o.ln = 0 ∨ z.o.ln = 1 ∨ z.o.ln = 2 := by omega
    rcases ho3 with g | g | g
    · exact c_reFound (fun _ _ => True) hX (by omega) _ (c_re8_0 hW hX hz h g hk hm hhi n0 n1)
    · exact c_reFound (fun _ _ => True) hX (by omega) _ (c_re8_1 hW hX hz h g hk hm hhi n0 n1)
    · exact c_reFound (fun _ _ => True) hX (by omega) _ (c_re8_2 hW hX hz h g hk hm hhi n0 n1)
  · exact c_reFound (fun _ _ => True) hX (by omega) _ (c_re9 hW hX hz h hk hm hhi n0 n1)
  · exact c_reFound (fun _ _ => True) hX (by omega) _ (c_re10 hW hX hz h hk hm hhi n0 n1)
  · by_cases hr : z.ref = 0
    · exact c_reFound (fun _ _ => True) hX (by omega) _ (c_re11a hW hX hz h hr hk hm hhi n0 n1)
    · exact c_reFound (fun _ _ => True) hX (by omega) _ (c_re11b hW hX hz h hr hk hm hhi n0 n1)
  · exact c_reFound (fun _ _ => True) hX (by omega) _ (c_re12 hW hX hz h hk hm hhi n0 n1)
theorem c_reNew (hk : 10 ≤ k) (hhi : ∀ j, O j ≠ 0 → j < w.heap.size) : Calls Tryz.prog 58 #[] w fun e w' => ∃ R, RP (fun t => t = k) w O (.pointer (some ⟨R, 0, none⟩)) (fun W G => ReAt W G k R evNew) e w' := by
  obtain ⟨G, e2, x2, -⟩ := alloc_ob hhi k #[.int .i64 1, .int .i64 0, .int .i64 0, .int .i64 0, .int .i64 0, .int .u64 0, .int .u64 0, .int .i64 0, .int .u64 0, .pointer none, .pointer none] 128 w.heap.size rfl
  have HE := Lib.hid (And.intro e2 x2)
  clear e2 x2
  go_enter Tryz.func58, Tryz.ntmps58
  go_wp2_with fail
  go_ret
  exact ⟨_, rfl, G, HE.out.1, ReAt.simple ⟨0, 0, 0⟩ none none HE.out.2 (fun g => absurd g (by unfold evNew; dsimp only; omega)) (fun g => absurd g (by unfold evNew; dsimp only; omega)) (by unfold evNew; dsimp only; omega) (fun _ => rfl)⟩
set_option maxHeartbeats 2000000 in
set_option maxRecDepth 100000 in
theorem c_reGot {z : Evm} (hX : ReAt w O k R z) :
    Calls Tryz.prog 115 #[.pointer (some ⟨R, 0, none⟩)] w fun e w' => e = .returned (.tuple #[.int .i64 (evGot z).1, spV (evGot z).2]) ∧ Below w.heap.size w w' := by
  obtain ⟨p, a, u, hx, c1, c2, -⟩ := hX.ex
  have x0 := hx.c 0 _ rfl
  have x1 := hx.c 1 _ rfl
  have x2 := hx.c 2 _ rfl
  have x3 := hx.c 3 _ rfl
  have x4 := hx.c 4 _ rfl
  have hl := hx.lt
  obtain ⟨ln, t, h, n, ref, mk, o⟩ := z
  dsimp only at x0 x1 x2 x3 x4 c1 c2
  clear hX hx
  have hB : ∀ o, Below w.heap.size w (w.alloc o) := fun o => (Below.refl _ _).alloc (Nat.le_refl _) o
  have HB := Lib.hid hB
  have hne : ¬ R = w.heap.size := by omega
  have hne2 : ¬ w.heap.size = R := by omega
  clear hB
  by_cases e0 : ln = 0
  · subst e0
    have hg : ((evGot ⟨0, t, h, n, ref, mk, o⟩).1, (evGot ⟨0, t, h, n, ref, mk, o⟩).2) = (ref, p) := by
      rw [c2 (.inr (.inr rfl))]
      by_cases er : ref = 0
      · subst er; unfold evGot; rw [if_neg (by simp)]
        first | rfl | done
      · unfold evGot; rw [if_pos ⟨rfl, er⟩, if_neg er]
    have g1 := congrArg Prod.fst hg
    have g2 := congrArg Prod.snd hg
    dsimp only at g1 g2
    rw [g1, g2]
    unfold spV
    clear hg g1 g2 c1 c2
    obtain ⟨pb, hpb⟩ : ∃ z, z = p.b := ⟨_, rfl⟩
    obtain ⟨pq, hpq⟩ : ∃ z, z = p.q := ⟨_, rfl⟩
    obtain ⟨ps, hps⟩ : ∃ z, z = p.s := ⟨_, rfl⟩
    rw [← hpb] at x2
    rw [← hpq] at x3
    rw [← hps] at x4
    rw [← hpb, ← hpq, ← hps]
    clear hpb hpq hps
    go_enter Tryz.func115, Tryz.ntmps115
    go_wp2_with fail
    obtain ⟨W, hW⟩ : ∃ W, W = w.alloc (.cells #[.int .i64 0, .int .i64 0, .int .i64 0] 45) := ⟨_, rfl⟩
    have hB : Below w.heap.size w W := by rw [hW]; exact HB.out _
    have y1 := (hB.cell (p := ⟨R, 1, none⟩) hl).trans x1
    have y2 := (hB.cell (p := ⟨R, 2, none⟩) hl).trans x2
    have y3 := (hB.cell (p := ⟨R, 3, none⟩) hl).trans x3
    have y4 := (hB.cell (p := ⟨R, 4, none⟩) hl).trans x4
    have z0 : W.cell? ⟨w.heap.size, 0, none⟩ = some (.int .i64 0) := by rw [hW]; simp
    have z1 : W.cell? ⟨w.heap.size, 1, none⟩ = some (.int .i64 0) := by rw [hW]; simp
    have z2 : W.cell? ⟨w.heap.size, 2, none⟩ = some (.int .i64 0) := by rw [hW]; simp
    have zf : ∀ j, W.frozen? ⟨w.heap.size, j, none⟩ = false := fun j => by rw [hW]; exact frozen_newA w #[.int .i64 0, .int .i64 0, .int .i64 0] _ _ rfl j
    have zf0 := zf 0
    have zf1 := zf 1
    have zf2 := zf 2
    have HBW := Lib.hid hB
    have s0 : (W.setCell ⟨w.heap.size, 0, none⟩ (.int .i64 pb)).cell? ⟨w.heap.size, 0, none⟩ = some (.int .i64 pb) := World.cell?_setCell_same _ _ _ z0
    have s1 : ((W.setCell ⟨w.heap.size, 0, none⟩ (.int .i64 pb)).setCell ⟨w.heap.size, 1, none⟩ (.int .i64 pq)).cell? ⟨w.heap.size, 1, none⟩ = some (.int .i64 pq) := World.cell?_setCell_same _ _ _ ((World.cell?_setCell_other _ _ _ _ (by simp)).trans z1)
    have s2 : (((W.setCell ⟨w.heap.size, 0, none⟩ (.int .i64 pb)).setCell ⟨w.heap.size, 1, none⟩ (.int .i64 pq)).setCell ⟨w.heap.size, 2, none⟩ (.int .i64 ps)).cell? ⟨w.heap.size, 2, none⟩ = some (.int .i64 ps) := World.cell?_setCell_same _ _ _ ((World.cell?_setCell_other _ _ _ _ (by simp)).trans ((World.cell?_setCell_other _ _ _ _ (by simp)).trans z2))
    try rw [← hW]
    clear hW hB zf
    go_region_held3 (fun w' => w'.cell? ⟨R, 1, none⟩ = some (.int .i64 ref) ∧ w'.cell? ⟨R, 2, none⟩ = some (.int .i64 pb) ∧ w'.cell? ⟨R, 3, none⟩ = some (.int .i64 pq) ∧ w'.cell? ⟨R, 4, none⟩ = some (.int .i64 ps)) (go_keep) (fail)
    all_goals
      go_wp2_with fail
      exact bodyPost_ret (v := .tuple #[.int .i64 ref, .agg #[.int .i64 pb, .int .i64 pq, .int .i64 ps]]) (by simp [results, Tryz.results115, go_sem, s0, s1, s2]) rfl ⟨rfl, (((HBW.out.setCell (p := ⟨w.heap.size, 0, none⟩) (Nat.le_refl _) _).setCell (p := ⟨w.heap.size, 1, none⟩) (Nat.le_refl _) _).setCell (p := ⟨w.heap.size, 2, none⟩) (Nat.le_refl _) _).drew⟩
  · have hg : evGot ⟨ln, t, h, n, ref, mk, o⟩ = (0, ⟨0, 0, 0⟩) := by unfold evGot; rw [if_neg (by intro g; exact e0 g.1)]
    have dn : (ln != 0) = true := by simp [e0]
    have dn2 : (ln == 0) = false := by simp [e0]
    rw [hg]
    unfold spV
    dsimp only
    clear hg c1 c2 e0
    go_enter Tryz.func115, Tryz.ntmps115
    go_wp2_with fail
    exact bodyPost_ret (v := .tuple #[.int .i64 0, .agg #[.int .i64 0, .int .i64 0, .int .i64 0]]) (by simp [results, Tryz.results115, go_sem]) rfl ⟨rfl, by first | exact (Below.refl _ _).alloc (Nat.le_refl _) _ | exact ((((Below.refl _ _).alloc (Nat.le_refl _) _).setCell (p := ⟨w.heap.size, 0, none⟩) (Nat.le_refl _) _).setCell (p := ⟨w.heap.size, 1, none⟩) (Nat.le_refl _) _).setCell (p := ⟨w.heap.size, 2, none⟩) (Nat.le_refl _) _⟩
end
end Go.Proofs.YtlcibfpibklbdaaGreat
