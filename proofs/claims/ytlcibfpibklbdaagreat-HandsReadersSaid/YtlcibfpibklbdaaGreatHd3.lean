/- Layer 23: an Evict's lines 7 to 12. -/
import Derived.Test.YtlcibfpibklbdaaGreatHd2
import Derived.Test.YtlcibfpibklbdaaGreatBaF
import Derived.Test.YtlcibfpibklbdaaGreatGt
namespace Go.Proofs.YtlcibfpibklbdaaGreat
set_option linter.unusedSimpArgs false
open Go.RowKit Go.Shelf
set_option linter.unusedVariables false

section
variable {X : Nat} {w : World} {O : Om} {B : Wb} {f : Cf} {s : AW} {k : Nat}
set_option maxHeartbeats 4000000 in
set_option maxRecDepth 100000 in
theorem c_goes7 {z : Evm} (hP : PW w O B f s) (hX : EvAt w O k X z) (hz : EvOk z) (hl : z.ln = 7) (hk : 10 ≤ k) (hhi : ∀ j, O j ≠ 0 → j < w.heap.size) (n0 : 0 ≤ s.n) (n1 : s.n ≤ 4611686018427387904) :
    Calls Tryz.prog 82 #[.pointer (some ⟨X, 0, none⟩), .pointer (some ⟨B.p, 0, none⟩)] w (EPost w O B f k X (evStep (s, z))) := by
  rw [evStep_7 s z hl]
  obtain ⟨ln, t, h, n, ref, mk, o⟩ := z
  dsimp only at hl
  subst hl
  obtain ⟨all, a, ou, l, hx, hall, ha7, ho7, hl7⟩ := hX.ex
  dsimp only at hall ha7 ho7 hl7 ⊢
  have x0 := hx.c 0 _ rfl
  have p0 := hP.wo.c0
  dsimp only at x0
  have HAL := Lib.hid (hall (by decide))
  unfold EPost
  obtain ⟨A, rfl, hA⟩ := ha7 rfl
  obtain ⟨U, rfl, hU⟩ := ho7 (.inl rfl)
  obtain ⟨L, rfl, hL⟩ := hl7 (.inl rfl)
  have HM : Hid (Me k (k + 5) w O w O B f s k X (evCs ⟨7, t, h, n, ref, mk, o⟩ all (some ⟨A, 0, none⟩) (some ⟨U, 0, none⟩) (some ⟨L, 0, none⟩))) := Lib.hid (Me.start hhi hP hx)

  have x7 := hx.c 7 _ rfl
  have hv := (plAt_ok t (h + n)).ver
  obtain ⟨ve, hve⟩ : ∃ ve, ve = (plAt t (h + n)).ver := ⟨_, rfl⟩
  have es : ∀ mk' o', (evSpot ⟨7, t, h, n, ref, mk', o'⟩).ver = ve := fun _ _ => hve.symm
  rw [es] at hA ⊢
  rw [← hve] at hv
  have HU := Lib.hid hU
  have HL := Lib.hid hL
  have HK := Lib.hid (c_MkStep ve [] (k + 1) hP hA (by simp) (by omega) hhi (by omega) (by omega) n0 n1)
  clear hP hX hx hhi hall ha7 ho7 hl7 hA hU hL es hve hv
  go_enter Tryz.func82, Tryz.ntmps82
  go_wp2_with fail
  refine HK.out.mono ?_
  rintro e w2 ⟨rfl, G2, e2, P2, -⟩
  have hd : (([] : List Int).length == 0) = true := rfl
  rw [hd]
  have M2 := Lib.hid (HM.out.call hk (by omega) (by omega) (by omega) e2 P2)
  have U2 := Lib.hid (HU.out.ext e2 (SX.not (by omega) (by omega)))
  have L2 := Lib.hid (HL.out.ext e2 (SX.not (by omega) (by omega)) (SX.not (by omega) (by omega)))
  clear HK e2 P2 x0 x7 p0 hd

  have q0 := M2.out.t.c 0 _ rfl
  have f0 := M2.out.t.f 0
  have M3 := Lib.hid (M2.out.set hk (Nat.le_refl _) (by omega) 0 (.int .i64 8) (by simp [evCs]))

  have EE := Lib.hid (ext_set (j := 0) (v := .int .i64 8) M2.out.e.hi M2.out.t hk)
  go_wp2_with fail
  go_ret
  exact ⟨rfl, _, M3.out.e, M3.out.p, ⟨all, _, _, _, M3.out.t, fun _ => HAL.out, fun g => absurd (show (8 : Int) = 7 from g) (by decide), fun _ => ⟨U, rfl, U2.out.ext EE.out (by omega)⟩, fun _ => ⟨L, rfl, L2.out.ext EE.out (by omega) (by omega)⟩⟩⟩
set_option maxHeartbeats 4000000 in
set_option maxRecDepth 100000 in
theorem c_goes9 {z : Evm} (hP : PW w O B f s) (hX : EvAt w O k X z) (hz : EvOk z) (hl : z.ln = 9) (hk : 10 ≤ k) (hhi : ∀ j, O j ≠ 0 → j < w.heap.size) (n0 : 0 ≤ s.n) (n1 : s.n ≤ 4611686018427387904) :
    Calls Tryz.prog 82 #[.pointer (some ⟨X, 0, none⟩), .pointer (some ⟨B.p, 0, none⟩)] w (EPost w O B f k X (evStep (s, z))) := by
  rw [evStep_9 s z hl]
  obtain ⟨ln, t, h, n, ref, mk, o⟩ := z
  dsimp only at hl
  subst hl
  obtain ⟨all, a, ou, l, hx, hall, ha7, ho7, hl7⟩ := hX.ex
  dsimp only at hall ha7 ho7 hl7 ⊢
  have x0 := hx.c 0 _ rfl
  have p0 := hP.wo.c0
  dsimp only at x0
  have HAL := Lib.hid (hall (by decide))
  unfold EPost
  obtain ⟨L, rfl, hL⟩ := hl7 (.inr (.inr rfl))
  have HM : Hid (Me k (k + 5) w O w O B f s k X (evCs ⟨9, t, h, n, ref, mk, o⟩ all a ou (some ⟨L, 0, none⟩))) := Lib.hid (Me.start hhi hP hx)

  have x9 := hx.c 9 _ rfl
  have hv := (plAt_ok t (h + n)).ver
  obtain ⟨ve, hve⟩ : ∃ ve, ve = (plAt t (h + n)).ver := ⟨_, rfl⟩
  have es : ∀ mk' o', (evSpot ⟨9, t, h, n, ref, mk', o'⟩).ver = ve := fun _ _ => hve.symm
  rw [es] at hL ⊢
  rw [← hve] at hv
  have HK := Lib.hid (c_MkStep ve [] (k + 4) hP hL (by simp) (by omega) hhi (by omega) (by omega) n0 n1)
  clear hP hX hx hhi hall ha7 ho7 hl7 hL es hve hv
  go_enter Tryz.func82, Tryz.ntmps82
  go_wp2_with fail
  refine HK.out.mono ?_
  rintro e w2 ⟨rfl, G2, e2, P2, -⟩
  have hd : (([] : List Int).length == 0) = true := rfl
  rw [hd]
  have M2 := Lib.hid (HM.out.call hk (by omega) (by omega) (by omega) e2 P2)
  clear HK e2 P2 x0 x9 p0 hd

  have q0 := M2.out.t.c 0 _ rfl
  have f0 := M2.out.t.f 0
  have M3 := Lib.hid (M2.out.set hk (Nat.le_refl _) (by omega) 0 (.int .i64 10) (by simp [evCs]))

  go_wp2_with fail
  go_ret
  exact ⟨rfl, _, M3.out.e, M3.out.p, EvAt.simple all a ou _ M3.out.t (fun _ => HAL.out) (fun h => absurd (show (10 : Int) = 7 from h) (by decide)) (fun h => absurd (show (10 : Int) = 8 from h) (by decide)) (fun h => absurd (show (10 : Int) = 9 from h) (by decide))⟩
set_option maxHeartbeats 4000000 in
set_option maxRecDepth 100000 in
theorem c_goes10 {z : Evm} (hP : PW w O B f s) (hX : EvAt w O k X z) (hz : EvOk z) (hl : z.ln = 10) (hk : 10 ≤ k) (hhi : ∀ j, O j ≠ 0 → j < w.heap.size) (n0 : 0 ≤ s.n) (n1 : s.n ≤ 4611686018427387904) :
    Calls Tryz.prog 82 #[.pointer (some ⟨X, 0, none⟩), .pointer (some ⟨B.p, 0, none⟩)] w (EPost w O B f k X (evStep (s, z))) := by
  rw [evStep_10 s z hl]
  obtain ⟨ln, t, h, n, ref, mk, o⟩ := z
  dsimp only at hl
  subst hl
  obtain ⟨all, a, ou, l, hx, hall, ha7, ho7, hl7⟩ := hX.ex
  dsimp only at hall ha7 ho7 hl7 ⊢
  have x0 := hx.c 0 _ rfl
  have p0 := hP.wo.c0
  dsimp only at x0
  have HAL := Lib.hid (hall (by decide))
  unfold EPost
  have HM : Hid (Me k (k + 5) w O w O B f s k X (evCs ⟨10, t, h, n, ref, mk, o⟩ all a ou l)) := Lib.hid (Me.start hhi hP hx)

  have HL := Lib.hid (c_AddP 6 18446744073709551615 hP hhi (by decide) (by decide) (by decide) (by decide) n0 n1)
  clear hP hX hx hhi hall ha7 ho7 hl7
  go_enter Tryz.func82, Tryz.ntmps82
  go_wp2_with fail
  refine HL.out.mono ?_
  rintro e w2 ⟨rfl, G2, e2, P2⟩
  have M2 := Lib.hid (HM.out.world hk e2 P2)
  clear HL e2 P2 x0 p0

  have q0 := M2.out.t.c 0 _ rfl
  have f0 := M2.out.t.f 0
  have M3 := Lib.hid (M2.out.set hk (Nat.le_refl _) (by omega) 0 (.int .i64 11) (by simp [evCs]))

  go_wp2_with fail
  go_ret
  exact ⟨rfl, _, M3.out.e, M3.out.p, EvAt.simple all a ou l M3.out.t (fun _ => HAL.out) (fun h => absurd (show (11 : Int) = 7 from h) (by decide)) (fun h => absurd (show (11 : Int) = 8 from h) (by decide)) (fun h => absurd (show (11 : Int) = 9 from h) (by decide))⟩
set_option maxHeartbeats 4000000 in
set_option maxRecDepth 100000 in
theorem c_goes12 {z : Evm} (hP : PW w O B f s) (hX : EvAt w O k X z) (hz : EvOk z) (hl : z.ln = 12) (hk : 10 ≤ k) (hhi : ∀ j, O j ≠ 0 → j < w.heap.size) (n0 : 0 ≤ s.n) (n1 : s.n ≤ 4611686018427387904) :
    Calls Tryz.prog 82 #[.pointer (some ⟨X, 0, none⟩), .pointer (some ⟨B.p, 0, none⟩)] w (EPost w O B f k X (evStep (s, z))) := by
  rw [evStep_12 s z hl]
  obtain ⟨ln, t, h, n, ref, mk, o⟩ := z
  dsimp only at hl
  subst hl
  obtain ⟨all, a, ou, l, hx, hall, ha7, ho7, hl7⟩ := hX.ex
  dsimp only at hall ha7 ho7 hl7 ⊢
  have x0 := hx.c 0 _ rfl
  have p0 := hP.wo.c0
  dsimp only at x0
  have HAL := Lib.hid (hall (by decide))
  unfold EPost
  have HM : Hid (Me k (k + 5) w O w O B f s k X (evCs ⟨12, t, h, n, ref, mk, o⟩ all a ou l)) := Lib.hid (Me.start hhi hP hx)

  have HL := Lib.hid (c_StoreP 5 0 hP hhi (by decide) (by decide) (by decide) (by decide) n0 n1)
  clear hP hX hx hhi hall ha7 ho7 hl7
  go_enter Tryz.func82, Tryz.ntmps82
  go_wp2_with fail
  refine HL.out.mono ?_
  rintro e w2 ⟨rfl, G2, e2, P2⟩
  have M2 := Lib.hid (HM.out.world hk e2 P2)
  clear HL e2 P2 x0 p0

  have q0 := M2.out.t.c 0 _ rfl
  have f0 := M2.out.t.f 0
  have M3 := Lib.hid (M2.out.set hk (Nat.le_refl _) (by omega) 0 (.int .i64 0) (by simp [evCs]))

  go_wp2_with fail
  go_ret
  exact ⟨rfl, _, M3.out.e, M3.out.p, EvAt.simple all a ou l M3.out.t (fun _ => HAL.out) (fun h => absurd (show (0 : Int) = 7 from h) (by decide)) (fun h => absurd (show (0 : Int) = 8 from h) (by decide)) (fun h => absurd (show (0 : Int) = 9 from h) (by decide))⟩
set_option maxHeartbeats 4000000 in
set_option maxRecDepth 100000 in
theorem c_goes8_0 {z : Evm} (hP : PW w O B f s) (hX : EvAt w O k X z) (hz : EvOk z) (hl : z.ln = 8) (ho : z.o.ln = 0) (hk : 10 ≤ k) (hhi : ∀ j, O j ≠ 0 → j < w.heap.size) (n0 : 0 ≤ s.n) (n1 : s.n ≤ 4611686018427387904) :
    Calls Tryz.prog 82 #[.pointer (some ⟨X, 0, none⟩), .pointer (some ⟨B.p, 0, none⟩)] w (EPost w O B f k X (evStep (s, z))) := by
  rw [evStep_8 s z hl]
  obtain ⟨ln, t, h, n, ref, mk, o⟩ := z
  dsimp only at hl
  subst hl
  obtain ⟨all, a, ou, l, hx, hall, ha7, ho7, hl7⟩ := hX.ex
  dsimp only at hall ha7 ho7 hl7 ⊢
  have x0 := hx.c 0 _ rfl
  have p0 := hP.wo.c0
  dsimp only at x0
  have HAL := Lib.hid (hall (by decide))
  unfold EPost
  obtain ⟨U, rfl, hU⟩ := ho7 (.inr rfl)
  obtain ⟨L, rfl, hL⟩ := hl7 (.inr (.inl rfl))
  obtain ⟨oln, ow⟩ := o
  dsimp only at ho
  subst ho
  have HM : Hid (Me k (k + 5) w O w O B f s k X (evCs ⟨8, t, h, n, ref, mk, ⟨0, ow⟩⟩ all a (some ⟨U, 0, none⟩) (some ⟨L, 0, none⟩))) := Lib.hid (Me.start hhi hP hx)

  obtain ⟨l0, l1, t0, t1, h0, h1, m0, m1, m2, r0, r1, k0, k1, w0, w1, o8⟩ := hz
  dsimp only at t0 t1 h0 h1 m0 m1 m2 r0 r1 k0 k1
  have h1 := h1 (.inl (by decide))
  dsimp only at w0 w1
  have hal := hall (by decide)
  have HAL := Lib.hid hal
  have hsp := plSpots_bd t
  rw [← hal] at hsp
  have hw1 : wrap64 (n + 1) = n + 1 := by unfold wrap64; omega
  have hw2 : IntKind.i64.wrap (n + 1) = n + 1 := by simp [IntKind.wrap, IntKind.bits, IntKind.signed]; omega
  have hw3 : wrap64 (2 * all) = 2 * all := by unfold wrap64; omega
  have hw4 : IntKind.i64.wrap (2 * all) = 2 * all := by simp [IntKind.wrap, IntKind.bits, IntKind.signed]; omega
  obtain ⟨v, hv⟩ : ∃ v, v = plAt t (h + n) := ⟨_, rfl⟩
  have hvo : v.ok := by rw [hv]; exact plAt_ok _ _
  have HV := Lib.hid (And.intro hv hvo)
  have HSP := Lib.hid (fun (W : World) (g1 : W.cell? ⟨X, 1, none⟩ = some (.int .u64 t)) (g3 : W.cell? ⟨X, 3, none⟩ = some (.int .i64 h)) (g4 : W.cell? ⟨X, 4, none⟩ = some (.int .i64 n)) => c_EvSpot t h n g1 g3 g4 t0 t1 h0 h1 m0 m1)
  rw [← hv] at HSP

  have esv : ∀ mk' o', evSpot ⟨8, t, h, n, ref, mk', o'⟩ = v := fun _ _ => hv.symm
  rw [esv] at hU hL ⊢
  have ht := hvo.tags
  have ht0 : v.tags ≠ 0 := by omega
  have HU := Lib.hid hU
  have HL := Lib.hid hL
  have hU0 := hU.ob.c 0 _ rfl
  have hU4 := hU.ob.c 4 _ rfl
  have HK := Lib.hid (c_OutStep (k := k + 3) ⟨0, ow⟩ hP hU hvo (show (0 : Nat) < 3 by decide) w0 w1 (by omega) hhi n0 n1)
  have hon : (outStep v s ⟨0, ow⟩).2.ln = 1 := rfl
  have honn : (outStep v s ⟨0, ow⟩).1.n = s.n + 1 := rfl
  obtain ⟨o2, ho2⟩ : ∃ o2, o2 = (outStep v s ⟨0, ow⟩).2 := ⟨_, rfl⟩
  obtain ⟨s2, hs2⟩ : ∃ s2, s2 = (outStep v s ⟨0, ow⟩).1 := ⟨_, rfl⟩
  rw [← ho2, ← hs2] at HK
  rw [← ho2] at hon
  rw [← hs2] at honn
  have HO2 := Lib.hid (And.intro ho2 hs2)
  have x5 := hx.c 5 _ rfl
  have x8 := hx.c 8 _ rfl
  dsimp only at x5
  have g1 : decide (1 < (0 : Nat)) = false := by decide
  have hd : ((0 : Nat) == 2) = false := by decide
  clear hP hX hx hhi hall hal ha7 ho7 hl7 hU hL esv ho2 hs2 hvo hv ht l0 l1 t0 t1 h0 h1 m2 r0 r1 k0 k1 w0 w1 o8 hsp
  go_enter Tryz.func82, Tryz.ntmps82
  go_wp2_with fail
  refine (c_OutGone v.tags 0 hU0 hU4 ht0).mono ?_
  rintro e w' ⟨rfl, rfl⟩
  rw [g1]
  go_wp2_with fail
  refine HK.out.mono ?_
  rintro e w2 ⟨rfl, G2, e2, P2, u2⟩
  rw [hd]
  have M2 := Lib.hid (HM.out.call hk (by omega) (by omega) (by omega) e2 P2)
  have U2 := Lib.hid u2
  have L2 := Lib.hid (HL.out.ext e2 (SX.not (by omega) (by omega)) (SX.not (by omega) (by omega)))
  have j0 := u2.ob.c 0 _ rfl
  have j4 := u2.ob.c 4 _ rfl
  rw [hon] at j4
  have y0 := M2.out.t.c 0 _ rfl
  have y5 := M2.out.t.c 5 _ rfl
  have y8 := M2.out.t.c 8 _ rfl
  have g2 : decide (1 < (1 : Nat)) = false := by decide
  clear HK e2 P2 u2 x0 x5 x8 hU0 hU4 g1 hd

  go_wp2_with fail
  refine (c_OutGone v.tags 1 j0 j4 ht0).mono ?_
  rintro e w' ⟨rfl, rfl⟩
  rw [g2]
  clear j0 j4 g2

  go_wp2_with fail
  go_ret
  refine ⟨by first | rfl | (simp [evOver]; done), _, M2.out.e, ?_, ?_⟩
  · (try rw [if_neg (show ¬ ((0 : Nat) = 1) by decide)]); rw [← HO2.out.2]; exact M2.out.p
  · rw [← HO2.out.1]
    exact ⟨all, _, _, _, M2.out.t, fun _ => HAL.out, fun g => absurd (show (8 : Int) = 7 from g) (by decide), fun _ => ⟨U, rfl, by rw [HV.out.1] at U2; exact U2.out⟩, fun _ => ⟨L, rfl, by rw [HV.out.1] at L2; exact L2.out⟩⟩
set_option maxHeartbeats 4000000 in
set_option maxRecDepth 100000 in
theorem c_goes8_1 {z : Evm} (hP : PW w O B f s) (hX : EvAt w O k X z) (hz : EvOk z) (hl : z.ln = 8) (ho : z.o.ln = 1) (hk : 10 ≤ k) (hhi : ∀ j, O j ≠ 0 → j < w.heap.size) (n0 : 0 ≤ s.n) (n1 : s.n ≤ 4611686018427387904) :
    Calls Tryz.prog 82 #[.pointer (some ⟨X, 0, none⟩), .pointer (some ⟨B.p, 0, none⟩)] w (EPost w O B f k X (evStep (s, z))) := by
  rw [evStep_8 s z hl]
  obtain ⟨ln, t, h, n, ref, mk, o⟩ := z
  dsimp only at hl
  subst hl
  obtain ⟨all, a, ou, l, hx, hall, ha7, ho7, hl7⟩ := hX.ex
  dsimp only at hall ha7 ho7 hl7 ⊢
  have x0 := hx.c 0 _ rfl
  have p0 := hP.wo.c0
  dsimp only at x0
  have HAL := Lib.hid (hall (by decide))
  unfold EPost
  obtain ⟨U, rfl, hU⟩ := ho7 (.inr rfl)
  obtain ⟨L, rfl, hL⟩ := hl7 (.inr (.inl rfl))
  obtain ⟨oln, ow⟩ := o
  dsimp only at ho
  subst ho
  have HM : Hid (Me k (k + 5) w O w O B f s k X (evCs ⟨8, t, h, n, ref, mk, ⟨1, ow⟩⟩ all a (some ⟨U, 0, none⟩) (some ⟨L, 0, none⟩))) := Lib.hid (Me.start hhi hP hx)

  obtain ⟨l0, l1, t0, t1, h0, h1, m0, m1, m2, r0, r1, k0, k1, w0, w1, o8⟩ := hz
  dsimp only at t0 t1 h0 h1 m0 m1 m2 r0 r1 k0 k1
  have h1 := h1 (.inl (by decide))
  dsimp only at w0 w1
  have hal := hall (by decide)
  have HAL := Lib.hid hal
  have hsp := plSpots_bd t
  rw [← hal] at hsp
  have hw1 : wrap64 (n + 1) = n + 1 := by unfold wrap64; omega
  have hw2 : IntKind.i64.wrap (n + 1) = n + 1 := by simp [IntKind.wrap, IntKind.bits, IntKind.signed]; omega
  have hw3 : wrap64 (2 * all) = 2 * all := by unfold wrap64; omega
  have hw4 : IntKind.i64.wrap (2 * all) = 2 * all := by simp [IntKind.wrap, IntKind.bits, IntKind.signed]; omega
  obtain ⟨v, hv⟩ : ∃ v, v = plAt t (h + n) := ⟨_, rfl⟩
  have hvo : v.ok := by rw [hv]; exact plAt_ok _ _
  have HV := Lib.hid (And.intro hv hvo)
  have HSP := Lib.hid (fun (W : World) (g1 : W.cell? ⟨X, 1, none⟩ = some (.int .u64 t)) (g3 : W.cell? ⟨X, 3, none⟩ = some (.int .i64 h)) (g4 : W.cell? ⟨X, 4, none⟩ = some (.int .i64 n)) => c_EvSpot t h n g1 g3 g4 t0 t1 h0 h1 m0 m1)
  rw [← hv] at HSP

  have esv : ∀ mk' o', evSpot ⟨8, t, h, n, ref, mk', o'⟩ = v := fun _ _ => hv.symm
  rw [esv] at hU hL ⊢
  have ht := hvo.tags
  have ht0 : v.tags ≠ 0 := by omega
  have HU := Lib.hid hU
  have HL := Lib.hid hL
  have hU0 := hU.ob.c 0 _ rfl
  have hU4 := hU.ob.c 4 _ rfl
  have HK := Lib.hid (c_OutStep (k := k + 3) ⟨1, ow⟩ hP hU hvo (show (1 : Nat) < 3 by decide) w0 w1 (by omega) hhi n0 n1)
  have hon : (outStep v s ⟨1, ow⟩).2.ln = 2 := rfl
  have honn : (outStep v s ⟨1, ow⟩).1.n = s.n + 1 := rfl
  obtain ⟨o2, ho2⟩ : ∃ o2, o2 = (outStep v s ⟨1, ow⟩).2 := ⟨_, rfl⟩
  obtain ⟨s2, hs2⟩ : ∃ s2, s2 = (outStep v s ⟨1, ow⟩).1 := ⟨_, rfl⟩
  rw [← ho2, ← hs2] at HK
  rw [← ho2] at hon
  rw [← hs2] at honn
  have HO2 := Lib.hid (And.intro ho2 hs2)
  have x5 := hx.c 5 _ rfl
  have x8 := hx.c 8 _ rfl
  dsimp only at x5
  have g1 : decide (1 < (1 : Nat)) = false := by decide
  have hd : ((1 : Nat) == 2) = false := by decide
  clear hP hX hx hhi hall hal ha7 ho7 hl7 hU hL esv ho2 hs2 hvo hv ht l0 l1 t0 t1 h0 h1 m2 r0 r1 k0 k1 w0 w1 o8 hsp
  go_enter Tryz.func82, Tryz.ntmps82
  go_wp2_with fail
  refine (c_OutGone v.tags 1 hU0 hU4 ht0).mono ?_
  rintro e w' ⟨rfl, rfl⟩
  rw [g1]
  go_wp2_with fail
  refine HK.out.mono ?_
  rintro e w2 ⟨rfl, G2, e2, P2, u2⟩
  rw [hd]
  have M2 := Lib.hid (HM.out.call hk (by omega) (by omega) (by omega) e2 P2)
  have U2 := Lib.hid u2
  have L2 := Lib.hid (HL.out.ext e2 (SX.not (by omega) (by omega)) (SX.not (by omega) (by omega)))
  have j0 := u2.ob.c 0 _ rfl
  have j4 := u2.ob.c 4 _ rfl
  rw [hon] at j4
  have y0 := M2.out.t.c 0 _ rfl
  have y5 := M2.out.t.c 5 _ rfl
  have y8 := M2.out.t.c 8 _ rfl
  have g2 : decide (1 < (2 : Nat)) = true := by decide
  clear HK e2 P2 u2 x0 x5 x8 hU0 hU4 g1 hd

  go_wp2_with fail
  refine (c_OutGone v.tags 2 j0 j4 ht0).mono ?_
  rintro e w' ⟨rfl, rfl⟩
  rw [g2]
  clear j0 j4 g2

  go_wp2_with fail
  go_region_held3 (fun w' => w'.cell? ⟨X, 5, none⟩ = some (.int .i64 ref)) (go_keep)
    ((first
      | (go_at_call 77
         have N2 := Lib.hid M2.out.drew
         refine (HSP.out _ (N2.out.t.c 1 _ rfl) (N2.out.t.c 3 _ rfl) (N2.out.t.c 4 _ rfl)).mono ?_
         rintro e w3 ⟨rfl, hb3⟩
         have M3 := Lib.hid (N2.out.below hb3)
         have y53 := M3.out.t.c 5 _ rfl
         have U3 := Lib.hid ((U2.out.below (drew_below _)).below hb3)
         have L3 := Lib.hid ((L2.out.below (drew_below _)).below hb3)
         clear hb3)
      | (go_at_call 148
         refine (c_WNote 1 ref v.b v.q v.s 0 M3.out.p M3.out.e.hi (by decide) (by decide)).mono ?_
         rintro e w4 ⟨rfl, G4, e4, P4⟩
         have M4 := Lib.hid (M3.out.world hk e4 P4)
         have y54 := M4.out.t.c 5 _ rfl
         have U4 := Lib.hid (U3.out.ext e4 (by unfold SW; omega))
         have L4 := Lib.hid (L3.out.ext e4 (by unfold SW; omega) (by unfold SW; omega))
         clear e4 P4)))
  all_goals
    go_wp2_with fail
    go_ret
    refine ⟨by first | rfl | (simp [evOver]; done), _, M4.out.e, ?_, ?_⟩
    · (try rw [if_pos rfl]); rw [← HO2.out.2]; exact M4.out.p
    · rw [← HO2.out.1]
      exact ⟨all, _, _, _, M4.out.t, fun _ => HAL.out, fun g => absurd (show (8 : Int) = 7 from g) (by decide), fun _ => ⟨U, rfl, by rw [HV.out.1] at U4; exact U4.out⟩, fun _ => ⟨L, rfl, by rw [HV.out.1] at L4; exact L4.out⟩⟩
set_option maxHeartbeats 4000000 in
set_option maxRecDepth 100000 in
theorem c_goes8_2 {z : Evm} (hP : PW w O B f s) (hX : EvAt w O k X z) (hz : EvOk z) (hl : z.ln = 8) (ho : z.o.ln = 2) (hk : 10 ≤ k) (hhi : ∀ j, O j ≠ 0 → j < w.heap.size) (n0 : 0 ≤ s.n) (n1 : s.n ≤ 4611686018427387904) :
    Calls Tryz.prog 82 #[.pointer (some ⟨X, 0, none⟩), .pointer (some ⟨B.p, 0, none⟩)] w (EPost w O B f k X (evStep (s, z))) := by
  rw [evStep_8 s z hl]
  obtain ⟨ln, t, h, n, ref, mk, o⟩ := z
  dsimp only at hl
  subst hl
  obtain ⟨all, a, ou, l, hx, hall, ha7, ho7, hl7⟩ := hX.ex
  dsimp only at hall ha7 ho7 hl7 ⊢
  have x0 := hx.c 0 _ rfl
  have p0 := hP.wo.c0
  dsimp only at x0
  have HAL := Lib.hid (hall (by decide))
  unfold EPost
  obtain ⟨U, rfl, hU⟩ := ho7 (.inr rfl)
  obtain ⟨L, rfl, hL⟩ := hl7 (.inr (.inl rfl))
  obtain ⟨oln, ow⟩ := o
  dsimp only at ho
  subst ho
  have HM : Hid (Me k (k + 5) w O w O B f s k X (evCs ⟨8, t, h, n, ref, mk, ⟨2, ow⟩⟩ all a (some ⟨U, 0, none⟩) (some ⟨L, 0, none⟩))) := Lib.hid (Me.start hhi hP hx)

  obtain ⟨l0, l1, t0, t1, h0, h1, m0, m1, m2, r0, r1, k0, k1, w0, w1, o8⟩ := hz
  dsimp only at t0 t1 h0 h1 m0 m1 m2 r0 r1 k0 k1
  have h1 := h1 (.inl (by decide))
  dsimp only at w0 w1
  have hal := hall (by decide)
  have HAL := Lib.hid hal
  have hsp := plSpots_bd t
  rw [← hal] at hsp
  have hw1 : wrap64 (n + 1) = n + 1 := by unfold wrap64; omega
  have hw2 : IntKind.i64.wrap (n + 1) = n + 1 := by simp [IntKind.wrap, IntKind.bits, IntKind.signed]; omega
  have hw3 : wrap64 (2 * all) = 2 * all := by unfold wrap64; omega
  have hw4 : IntKind.i64.wrap (2 * all) = 2 * all := by simp [IntKind.wrap, IntKind.bits, IntKind.signed]; omega
  obtain ⟨v, hv⟩ : ∃ v, v = plAt t (h + n) := ⟨_, rfl⟩
  have hvo : v.ok := by rw [hv]; exact plAt_ok _ _
  have HV := Lib.hid (And.intro hv hvo)
  have HSP := Lib.hid (fun (W : World) (g1 : W.cell? ⟨X, 1, none⟩ = some (.int .u64 t)) (g3 : W.cell? ⟨X, 3, none⟩ = some (.int .i64 h)) (g4 : W.cell? ⟨X, 4, none⟩ = some (.int .i64 n)) => c_EvSpot t h n g1 g3 g4 t0 t1 h0 h1 m0 m1)
  rw [← hv] at HSP

  have esv : ∀ mk' o', evSpot ⟨8, t, h, n, ref, mk', o'⟩ = v := fun _ _ => hv.symm
  rw [esv] at hU hL ⊢
  have ht := hvo.tags
  have ht0 : v.tags ≠ 0 := by omega
  have HU := Lib.hid hU
  have HL := Lib.hid hL
  have hU0 := hU.ob.c 0 _ rfl
  have hU4 := hU.ob.c 4 _ rfl
  have HK := Lib.hid (c_OutStep (k := k + 3) ⟨2, ow⟩ hP hU hvo (show (2 : Nat) < 3 by decide) w0 w1 (by omega) hhi n0 n1)
  have hon : (outStep v s ⟨2, ow⟩).2.ln = 3 := rfl
  have honn : (outStep v s ⟨2, ow⟩).1.n = s.n + 1 := rfl
  obtain ⟨o2, ho2⟩ : ∃ o2, o2 = (outStep v s ⟨2, ow⟩).2 := ⟨_, rfl⟩
  obtain ⟨s2, hs2⟩ : ∃ s2, s2 = (outStep v s ⟨2, ow⟩).1 := ⟨_, rfl⟩
  rw [← ho2, ← hs2] at HK
  rw [← ho2] at hon
  rw [← hs2] at honn
  have HO2 := Lib.hid (And.intro ho2 hs2)
  have x5 := hx.c 5 _ rfl
  have x8 := hx.c 8 _ rfl
  dsimp only at x5
  have g1 : decide (1 < (2 : Nat)) = true := by decide
  have hd : ((2 : Nat) == 2) = true := by decide
  clear hP hX hx hhi hall hal ha7 ho7 hl7 hU hL esv ho2 hs2 hvo hv ht l0 l1 t0 t1 h0 h1 m2 r0 r1 k0 k1 w0 w1 o8 hsp
  go_enter Tryz.func82, Tryz.ntmps82
  go_wp2_with fail
  refine (c_OutGone v.tags 2 hU0 hU4 ht0).mono ?_
  rintro e w' ⟨rfl, rfl⟩
  rw [g1]
  go_wp2_with fail
  refine HK.out.mono ?_
  rintro e w2 ⟨rfl, G2, e2, P2, u2⟩
  rw [hd]
  have M2 := Lib.hid (HM.out.call hk (by omega) (by omega) (by omega) e2 P2)
  have U2 := Lib.hid u2
  have L2 := Lib.hid (HL.out.ext e2 (SX.not (by omega) (by omega)) (SX.not (by omega) (by omega)))
  have j0 := u2.ob.c 0 _ rfl
  have j4 := u2.ob.c 4 _ rfl
  rw [hon] at j4
  have y0 := M2.out.t.c 0 _ rfl
  have y5 := M2.out.t.c 5 _ rfl
  have y8 := M2.out.t.c 8 _ rfl
  have g2 : decide (1 < (3 : Nat)) = true := by decide
  clear HK e2 P2 u2 x0 x5 x8 hU0 hU4 g1 hd

  have q0 := M2.out.t.c 0 _ rfl
  have f0 := M2.out.t.f 0
  have M3 := Lib.hid (M2.out.set hk (Nat.le_refl _) (by omega) 0 (.int .i64 9) (by simp [evCs]))

  have EE := Lib.hid (ext_set (j := 0) (v := .int .i64 9) M2.out.e.hi M2.out.t hk)
  go_wp2_with fail
  go_ret
  refine ⟨by first | rfl | (simp [evOver]; done), _, M3.out.e, ?_, ?_⟩
  · (try rw [if_neg (show ¬ ((2 : Nat) = 1) by decide)]); rw [← HO2.out.2]; exact M3.out.p
  · rw [← HO2.out.1]
    exact ⟨all, _, _, _, M3.out.t, fun _ => HAL.out, fun g => absurd (show (9 : Int) = 7 from g) (by decide), fun g => by rcases g with g | g; exact absurd (show (9 : Int) = 7 from g) (by decide); exact absurd (show (9 : Int) = 8 from g) (by decide), fun _ => ⟨L, rfl, by rw [HV.out.1] at L2; exact L2.out.ext EE.out (by omega) (by omega)⟩⟩
end
end Go.Proofs.YtlcibfpibklbdaaGreat
