/- Layer 23: the document's Evict's lines 7 to 12, its Step, Got. -/
import Derived.Test.YtlcibfpibklbdaaGreatRf
namespace Go.Proofs.YtlcibfpibklbdaaGreat
set_option linter.unusedSimpArgs false
open Go.RowKit Go.Shelf
set_option linter.unusedVariables false

section
variable {R : Nat} {w : World} {O : Om} {C : Wb} {f : Cf} {s : AW} {m k : Nat}
set_option maxHeartbeats 4000000 in
set_option maxRecDepth 100000 in
theorem c_re7 {z : Evm} (hW : RW w O C f s m) (hX : ReAt w O k R z) (hz : EvOk z) (hl : z.ln = 7) (hk : 10 ≤ k) (hm : m ≤ 900000) (hhi : ∀ j, O j ≠ 0 → j < w.heap.size) (n0 : 0 ≤ s.n) (n1 : s.n ≤ 4611686018427387904) :
    Calls Tryz.prog 123 #[.pointer (some ⟨R, 0, none⟩), .pointer (some ⟨C.p, 0, none⟩)] w (REPost w O C f k R m (evStep (s, z))) := by
  obtain ⟨r, hr⟩ : ∃ r, r = evStep (s, z) := ⟨_, rfl⟩
  rw [← hr]
  rw [evStep_7 s z hl] at hr
  obtain ⟨ln, t, h, n, ref, mk, o⟩ := z
  dsimp only at hl
  subst hl
  obtain ⟨p, a, u, hx, c1, c2, c3, c4, c5, c6⟩ := hX.ex
  dsimp only at c1 c2 c3 c4 c5 c6 hr
  have HM : Hid (Md k (k + 3) w O w O C f s m k R (reCs ⟨7, t, h, n, ref, mk, o⟩ p a u)) := Lib.hid (Md.start hhi hW hx)
  have x0 := hx.c 0 _ rfl
  dsimp only at x0
  unfold REPost
  have hp : p = plAt t (h + n) := (c1 ⟨by decide, by decide⟩).1
  have hr00 := (c1 ⟨by decide, by decide⟩).2
  have H00 := Lib.hid hr00
  have hpo : p.ok := by rw [hp]; exact plAt_ok _ _
  obtain ⟨l0, l1, t0, t1, h0, h1, m0, m1, m2, r0, r1, k0, k1, w0, w1, o8⟩ := hz
  dsimp only at t0 t1 h0 h1 m0 m1 m2 r0 r1 k0 k1 w0 w1
  have h1 := h1 (.inl (by decide))
  have HT := Lib.hid (And.intro t0 (And.intro t1 (And.intro m0 m1)))
  have HP := Lib.hid (And.intro hp hpo)

  obtain ⟨Y, rfl, hY⟩ := c3 (by decide)
  have hv := hpo.ver
  obtain ⟨ve, hve⟩ : ∃ ve, ve = p.ver := ⟨_, rfl⟩
  have es : evSpot ⟨7, t, h, n, ref, mk, o⟩ = p := hp.symm
  rw [es] at hY hr
  rw [← hve] at hY hr hv
  have HR := Lib.hid hr
  have HM : Hid (Md k (k + 3) w O w O C f s m k R (reCs ⟨7, t, h, n, ref, mk, o⟩ p (some ⟨Y, 0, none⟩) u)) := HM
  have HK := Lib.hid (c_rMkStep ve [] (k := k + 1) hW hY (by omega) hm hhi (by omega) (by omega) n0 n1)
  have H6 := Lib.hid c6
  have x9 := hx.c 9 _ rfl
  clear hY hv hve es
  clear hr00 hW hX hx hhi c1 c2 c3 c4 c5 c6 hr hp hpo l0 l1 t0 t1 h0 h1 m0 m1 m2 r0 r1 k0 k1 w0 w1 o8
  go_enter Tryz.func123, Tryz.ntmps123
  go_wp2_with fail
  refine HK.out.mono ?_
  rintro e w2 ⟨rfl, G2, e2, P2, Y2⟩
  have M2 := Lib.hid (HM.out.call hk (by omega) (by omega) (by omega) e2 P2)
  have z0 := Y2.cell
  rw [if_pos rfl] at z0
  have y9 := M2.out.t.c 9 _ rfl
  clear HK e2 P2 x0 x9 Y2

  have y0 := M2.out.t.c 0 _ rfl
  have f0 := M2.out.t.f 0
  have M3 := Lib.hid (M2.out.set hk (Nat.le_refl _) (by omega) 0 (.int .i64 8) (by simp [reCs]))

  have y0 : w2.cell? ⟨R, 0, none⟩ = some (.int .i64 7) := y0
  go_upto_region 6 with fail
  obtain ⟨w3, hw3⟩ : ∃ w3, w3 = w2.setCell ⟨R, 0, none⟩ (.int .i64 8) := ⟨_, rfl⟩
  rw [← hw3] at M3 ⊢
  clear hw3 y0 f0 y9 z0
  have y2 := M3.out.t.c 2 _ rfl
  have y3 := M3.out.t.c 3 _ rfl
  have y4 := M3.out.t.c 4 _ rfl
  go_wp2_with fail
  refine (c_rNewOut (k := k + 3) HP.out.2 (by omega) M3.out.e.hi).mono ?_
  rintro e w4 ⟨U, rfl, G4, e4, u4⟩
  have M4 := Lib.hid (M3.out.oth hk e4 (fun t h => by omega))
  have U4 := Lib.hid u4
  clear e4 u4 y2 y3 y4
  have y10 := M4.out.t.c 10 _ rfl
  have f10 := M4.out.t.f 10
  have EE := Lib.hid (ext_set (j := 10) (v := .pointer (some ⟨U, 0, none⟩)) M4.out.e.hi M4.out.t hk)
  have M5 := Lib.hid (M4.out.set hk (Nat.le_refl _) (by omega) 10 (.pointer (some ⟨U, 0, none⟩)) (by simp [reCs]))
  go_wp2_with fail
  go_end0
  rw [HR.out]
  have hU := U4.out.ext EE.out (by omega)

  obtain ⟨oln, ow⟩ := o
  obtain ⟨g1, g2⟩ := H6.out (by decide)
  dsimp only at g1 g2
  subst g1 g2
  exact ⟨rfl, _, M5.out.e, M5.out.p, p, some ⟨Y, 0, none⟩, some ⟨U, 0, none⟩, M5.out.t, fun _ => ⟨HP.out.1, H00.out⟩, (fun g => absurd g (by dsimp only; omega)), (fun g => absurd g (by dsimp only; omega)), fun _ => ⟨U, rfl, by rw [HP.out.1] at hU; exact hU⟩, (fun g => absurd g (by dsimp only; omega)), (fun g => absurd g (by dsimp only; omega))⟩
set_option maxHeartbeats 4000000 in
set_option maxRecDepth 100000 in
theorem c_re9 {z : Evm} (hW : RW w O C f s m) (hX : ReAt w O k R z) (hz : EvOk z) (hl : z.ln = 9) (hk : 10 ≤ k) (hm : m ≤ 900000) (hhi : ∀ j, O j ≠ 0 → j < w.heap.size) (n0 : 0 ≤ s.n) (n1 : s.n ≤ 4611686018427387904) :
    Calls Tryz.prog 123 #[.pointer (some ⟨R, 0, none⟩), .pointer (some ⟨C.p, 0, none⟩)] w (REPost w O C f k R m (evStep (s, z))) := by
  obtain ⟨r, hr⟩ : ∃ r, r = evStep (s, z) := ⟨_, rfl⟩
  rw [← hr]
  rw [evStep_9 s z hl] at hr
  obtain ⟨ln, t, h, n, ref, mk, o⟩ := z
  dsimp only at hl
  subst hl
  obtain ⟨p, a, u, hx, c1, c2, c3, c4, c5, c6⟩ := hX.ex
  dsimp only at c1 c2 c3 c4 c5 c6 hr
  have HM : Hid (Md k (k + 3) w O w O C f s m k R (reCs ⟨9, t, h, n, ref, mk, o⟩ p a u)) := Lib.hid (Md.start hhi hW hx)
  have x0 := hx.c 0 _ rfl
  dsimp only at x0
  unfold REPost
  have hp : p = plAt t (h + n) := (c1 ⟨by decide, by decide⟩).1
  have hr00 := (c1 ⟨by decide, by decide⟩).2
  have H00 := Lib.hid hr00
  have hpo : p.ok := by rw [hp]; exact plAt_ok _ _
  obtain ⟨l0, l1, t0, t1, h0, h1, m0, m1, m2, r0, r1, k0, k1, w0, w1, o8⟩ := hz
  dsimp only at t0 t1 h0 h1 m0 m1 m2 r0 r1 k0 k1 w0 w1
  have h1 := h1 (.inl (by decide))
  have HT := Lib.hid (And.intro t0 (And.intro t1 (And.intro m0 m1)))
  have HP := Lib.hid (And.intro hp hpo)

  obtain ⟨Y, rfl, hY⟩ := c3 (by decide)
  have hv := hpo.ver
  obtain ⟨ve, hve⟩ : ∃ ve, ve = p.ver := ⟨_, rfl⟩
  have es : evSpot ⟨9, t, h, n, ref, mk, o⟩ = p := hp.symm
  rw [es] at hY hr
  rw [← hve] at hY hr hv
  have HR := Lib.hid hr
  have HM : Hid (Md k (k + 3) w O w O C f s m k R (reCs ⟨9, t, h, n, ref, mk, o⟩ p (some ⟨Y, 0, none⟩) u)) := HM
  have HK := Lib.hid (c_rMkStep ve [] (k := k + 1) hW hY (by omega) hm hhi (by omega) (by omega) n0 n1)
  have H6 := Lib.hid c6
  have x9 := hx.c 9 _ rfl
  clear hY hv hve es
  clear hr00 hW hX hx hhi c1 c2 c3 c4 c5 c6 hr hp hpo l0 l1 t0 t1 h0 h1 m0 m1 m2 r0 r1 k0 k1 w0 w1 o8
  go_enter Tryz.func123, Tryz.ntmps123
  go_wp2_with fail
  refine HK.out.mono ?_
  rintro e w2 ⟨rfl, G2, e2, P2, Y2⟩
  have M2 := Lib.hid (HM.out.call hk (by omega) (by omega) (by omega) e2 P2)
  have z0 := Y2.cell
  rw [if_pos rfl] at z0
  have y9 := M2.out.t.c 9 _ rfl
  clear HK e2 P2 x0 x9 Y2

  have y0 := M2.out.t.c 0 _ rfl
  have f0 := M2.out.t.f 0
  have M3 := Lib.hid (M2.out.set hk (Nat.le_refl _) (by omega) 0 (.int .i64 10) (by simp [reCs]))

  have y0 : w2.cell? ⟨R, 0, none⟩ = some (.int .i64 9) := y0
  go_upto_region 6 with fail
  obtain ⟨w3, hw3⟩ : ∃ w3, w3 = w2.setCell ⟨R, 0, none⟩ (.int .i64 10) := ⟨_, rfl⟩
  rw [← hw3] at M3 ⊢
  clear hw3 y0 f0 y9 z0
  have y2 := M3.out.t.c 2 _ rfl
  have y3 := M3.out.t.c 3 _ rfl
  have y4 := M3.out.t.c 4 _ rfl
  go_wp2_with fail
  refine (c_rNewOut (k := k + 3) HP.out.2 (by omega) M3.out.e.hi).mono ?_
  rintro e w4 ⟨U, rfl, G4, e4, u4⟩
  have M4 := Lib.hid (M3.out.oth hk e4 (fun t h => by omega))
  have U4 := Lib.hid u4
  clear e4 u4 y2 y3 y4
  have y10 := M4.out.t.c 10 _ rfl
  have f10 := M4.out.t.f 10
  have EE := Lib.hid (ext_set (j := 10) (v := .pointer (some ⟨U, 0, none⟩)) M4.out.e.hi M4.out.t hk)
  have M5 := Lib.hid (M4.out.set hk (Nat.le_refl _) (by omega) 10 (.pointer (some ⟨U, 0, none⟩)) (by simp [reCs]))
  go_wp2_with fail
  go_end0
  rw [HR.out]
  have hU := U4.out.ext EE.out (by omega)

  exact ⟨rfl, _, M5.out.e, M5.out.p, ReAt.simple p _ _ M5.out.t (fun _ => ⟨HP.out.1, H00.out⟩) (fun g => absurd g (by dsimp only; omega)) (by dsimp only; omega) (fun g => absurd g (by dsimp only; omega))⟩
set_option maxHeartbeats 4000000 in
set_option maxRecDepth 100000 in
theorem c_re8_0 {z : Evm} (hW : RW w O C f s m) (hX : ReAt w O k R z) (hz : EvOk z) (hl : z.ln = 8) (ho : z.o.ln = 0) (hk : 10 ≤ k) (hm : m ≤ 900000) (hhi : ∀ j, O j ≠ 0 → j < w.heap.size) (n0 : 0 ≤ s.n) (n1 : s.n ≤ 4611686018427387904) :
    Calls Tryz.prog 123 #[.pointer (some ⟨R, 0, none⟩), .pointer (some ⟨C.p, 0, none⟩)] w (REPost w O C f k R m (evStep (s, z))) := by
  obtain ⟨r, hr⟩ : ∃ r, r = evStep (s, z) := ⟨_, rfl⟩
  rw [← hr]
  rw [evStep_8 s z hl] at hr
  obtain ⟨ln, t, h, n, ref, mk, o⟩ := z
  dsimp only at hl
  subst hl
  obtain ⟨p, a, u, hx, c1, c2, c3, c4, c5, c6⟩ := hX.ex
  dsimp only at c1 c2 c3 c4 c5 c6 hr
  have HM : Hid (Md k (k + 3) w O w O C f s m k R (reCs ⟨8, t, h, n, ref, mk, o⟩ p a u)) := Lib.hid (Md.start hhi hW hx)
  have x0 := hx.c 0 _ rfl
  dsimp only at x0
  unfold REPost
  have hp : p = plAt t (h + n) := (c1 ⟨by decide, by decide⟩).1
  have hr00 := (c1 ⟨by decide, by decide⟩).2
  have H00 := Lib.hid hr00
  have hpo : p.ok := by rw [hp]; exact plAt_ok _ _
  obtain ⟨l0, l1, t0, t1, h0, h1, m0, m1, m2, r0, r1, k0, k1, w0, w1, o8⟩ := hz
  dsimp only at t0 t1 h0 h1 m0 m1 m2 r0 r1 k0 k1 w0 w1
  have h1 := h1 (.inl (by decide))
  have HT := Lib.hid (And.intro t0 (And.intro t1 (And.intro m0 m1)))
  have HP := Lib.hid (And.intro hp hpo)

  obtain ⟨U, rfl, hU⟩ := c4 (by decide)
  obtain ⟨oln, ow⟩ := o
  dsimp only at ho w0 w1
  subst ho
  have es : evSpot ⟨8, t, h, n, ref, mk, ⟨0, ow⟩⟩ = p := hp.symm
  rw [es] at hU hr
  have HM : Hid (Md k (k + 3) w O w O C f s m k R (reCs ⟨8, t, h, n, ref, mk, ⟨0, ow⟩⟩ p a (some ⟨U, 0, none⟩))) := HM
  have HK := Lib.hid (c_rOutStep (k := k + 3) ⟨0, ow⟩ hW hU hpo (show (0 : Nat) < 3 by decide) w0 w1 (by omega) hm hhi n0 n1)
  have hon : (outStep p s ⟨0, ow⟩).2.ln = 1 := rfl
  obtain ⟨o2, ho2⟩ : ∃ o2, o2 = (outStep p s ⟨0, ow⟩).2 := ⟨_, rfl⟩
  obtain ⟨s2, hs2⟩ : ∃ s2, s2 = (outStep p s ⟨0, ow⟩).1 := ⟨_, rfl⟩
  rw [← ho2, ← hs2] at HK hr
  rw [← ho2] at hon
  have hr : r = (s2, ⟨8, t, h, n, ref, mk, o2⟩) := hr
  have HR := Lib.hid hr
  have j1 : w.cell? ⟨U, 1, none⟩ = some (.bool false) := hU.ob.c 1 _ rfl
  have x10 := hx.c 10 _ rfl
  clear es ho2 hs2 hU
  clear hr00 hW hX hx hhi c1 c2 c3 c4 c5 c6 hr hp hpo l0 l1 t0 t1 h0 h1 m0 m1 m2 r0 r1 k0 k1 w0 w1 o8
  go_enter Tryz.func123, Tryz.ntmps123
  go_wp2_with fail
  refine HK.out.mono ?_
  rintro e w2 ⟨rfl, G2, e2, P2, u2⟩
  have M2 := Lib.hid (HM.out.call hk (by omega) (by omega) (by omega) e2 P2)
  have U2 := Lib.hid u2
  have i0 : w2.cell? ⟨U, 0, none⟩ = some (.int .i64 2) := by have := u2.ob.c 0 _ rfl; rw [hon] at this; exact this
  have i1 : w2.cell? ⟨U, 1, none⟩ = some (.bool false) := by have := u2.ob.c 1 _ rfl; rw [hon] at this; exact this
  have y10 := M2.out.t.c 10 _ rfl
  clear HK e2 P2 u2 j1 x10 x0

  go_wp2_with fail
  go_end0
  rw [HR.out]
  exact ⟨rfl, _, M2.out.e, M2.out.p, p, a, some ⟨U, 0, none⟩, M2.out.t, fun _ => ⟨HP.out.1, H00.out⟩, (fun g => absurd g (by dsimp only; omega)), (fun g => absurd g (by dsimp only; omega)), fun _ => ⟨U, rfl, by have := U2.out; rw [HP.out.1] at this; exact this⟩, (fun g => absurd g (by dsimp only; omega)), (fun g => absurd g (by dsimp only; omega))⟩
set_option maxHeartbeats 4000000 in
set_option maxRecDepth 100000 in
theorem c_re8_1 {z : Evm} (hW : RW w O C f s m) (hX : ReAt w O k R z) (hz : EvOk z) (hl : z.ln = 8) (ho : z.o.ln = 1) (hk : 10 ≤ k) (hm : m ≤ 900000) (hhi : ∀ j, O j ≠ 0 → j < w.heap.size) (n0 : 0 ≤ s.n) (n1 : s.n ≤ 4611686018427387904) :
    Calls Tryz.prog 123 #[.pointer (some ⟨R, 0, none⟩), .pointer (some ⟨C.p, 0, none⟩)] w (REPost w O C f k R m (evStep (s, z))) := by
  obtain ⟨r, hr⟩ : ∃ r, r = evStep (s, z) := ⟨_, rfl⟩
  rw [← hr]
  rw [evStep_8 s z hl] at hr
  obtain ⟨ln, t, h, n, ref, mk, o⟩ := z
  dsimp only at hl
  subst hl
  obtain ⟨p, a, u, hx, c1, c2, c3, c4, c5, c6⟩ := hX.ex
  dsimp only at c1 c2 c3 c4 c5 c6 hr
  have HM : Hid (Md k (k + 3) w O w O C f s m k R (reCs ⟨8, t, h, n, ref, mk, o⟩ p a u)) := Lib.hid (Md.start hhi hW hx)
  have x0 := hx.c 0 _ rfl
  dsimp only at x0
  unfold REPost
  have hp : p = plAt t (h + n) := (c1 ⟨by decide, by decide⟩).1
  have hr00 := (c1 ⟨by decide, by decide⟩).2
  have H00 := Lib.hid hr00
  have hpo : p.ok := by rw [hp]; exact plAt_ok _ _
  obtain ⟨l0, l1, t0, t1, h0, h1, m0, m1, m2, r0, r1, k0, k1, w0, w1, o8⟩ := hz
  dsimp only at t0 t1 h0 h1 m0 m1 m2 r0 r1 k0 k1 w0 w1
  have h1 := h1 (.inl (by decide))
  have HT := Lib.hid (And.intro t0 (And.intro t1 (And.intro m0 m1)))
  have HP := Lib.hid (And.intro hp hpo)

  obtain ⟨U, rfl, hU⟩ := c4 (by decide)
  obtain ⟨oln, ow⟩ := o
  dsimp only at ho w0 w1
  subst ho
  have es : evSpot ⟨8, t, h, n, ref, mk, ⟨1, ow⟩⟩ = p := hp.symm
  rw [es] at hU hr
  have HM : Hid (Md k (k + 3) w O w O C f s m k R (reCs ⟨8, t, h, n, ref, mk, ⟨1, ow⟩⟩ p a (some ⟨U, 0, none⟩))) := HM
  have HK := Lib.hid (c_rOutStep (k := k + 3) ⟨1, ow⟩ hW hU hpo (show (1 : Nat) < 3 by decide) w0 w1 (by omega) hm hhi n0 n1)
  have hon : (outStep p s ⟨1, ow⟩).2.ln = 2 := rfl
  obtain ⟨o2, ho2⟩ : ∃ o2, o2 = (outStep p s ⟨1, ow⟩).2 := ⟨_, rfl⟩
  obtain ⟨s2, hs2⟩ : ∃ s2, s2 = (outStep p s ⟨1, ow⟩).1 := ⟨_, rfl⟩
  rw [← ho2, ← hs2] at HK hr
  rw [← ho2] at hon
  have hr : r = (awNote 1 ref p.b p.q p.s 0 s2, ⟨8, t, h, n, ref, mk, o2⟩) := hr
  have HR := Lib.hid hr
  have j1 : w.cell? ⟨U, 1, none⟩ = some (.bool false) := hU.ob.c 1 _ rfl
  have x10 := hx.c 10 _ rfl
  clear es ho2 hs2 hU
  clear hr00 hW hX hx hhi c1 c2 c3 c4 c5 c6 hr hp hpo l0 l1 t0 t1 h0 h1 m0 m1 m2 r0 r1 k0 k1 w0 w1 o8
  go_enter Tryz.func123, Tryz.ntmps123
  go_wp2_with fail
  refine HK.out.mono ?_
  rintro e w2 ⟨rfl, G2, e2, P2, u2⟩
  have M2 := Lib.hid (HM.out.call hk (by omega) (by omega) (by omega) e2 P2)
  have U2 := Lib.hid u2
  have i0 : w2.cell? ⟨U, 0, none⟩ = some (.int .i64 3) := by have := u2.ob.c 0 _ rfl; rw [hon] at this; exact this
  have i1 : w2.cell? ⟨U, 1, none⟩ = some (.bool true) := by have := u2.ob.c 1 _ rfl; rw [hon] at this; exact this
  have y10 := M2.out.t.c 10 _ rfl
  clear HK e2 P2 u2 j1 x10 x0

  have y1 := M2.out.t.c 1 _ rfl
  have y2 := M2.out.t.c 2 _ rfl
  have y3 := M2.out.t.c 3 _ rfl
  have y4 := M2.out.t.c 4 _ rfl
  obtain ⟨pb, hpb⟩ : ∃ z, z = p.b := ⟨_, rfl⟩
  obtain ⟨pq, hpq⟩ : ∃ z, z = p.q := ⟨_, rfl⟩
  obtain ⟨ps, hps⟩ : ∃ z, z = p.s := ⟨_, rfl⟩
  rw [← hpb] at y2
  rw [← hpq] at y3
  rw [← hps] at y4
  have HN := Lib.hid (c_rwNote 1 ref pb pq ps 0 (w := w2.drew) M2.out.drew.p M2.out.drew.e.hi (by decide) (by decide))
  rw [hpb, hpq, hps] at HN
  have HQ := Lib.hid (And.intro hpb (And.intro hpq hps))
  rw [← hpb, ← hpq, ← hps] at HN
  clear hpb hpq hps
  go_upto_region 11 with fail
  go_region_held3 (fun w' => w'.cell? ⟨R, 1, none⟩ = some (.int .i64 ref) ∧ w'.cell? ⟨R, 2, none⟩ = some (.int .i64 pb) ∧ w'.cell? ⟨R, 3, none⟩ = some (.int .i64 pq) ∧ w'.cell? ⟨R, 4, none⟩ = some (.int .i64 ps)) (go_keep)
    ((go_at_call 140
      refine HN.out.mono ?_
      rintro e w3 ⟨rfl, G3, e3, P3⟩
      have M3 := Lib.hid (M2.out.drew.world hk e3 P3)
      have U3 := Lib.hid ((U2.out.below (drew_below _)).ext e3 (by unfold SR; omega))
      have y13 := M3.out.t.c 1 _ rfl
      have y23 := M3.out.t.c 2 _ rfl
      have y33 := M3.out.t.c 3 _ rfl
      have y43 := M3.out.t.c 4 _ rfl
      rw [← HQ.out.1] at y23
      rw [← HQ.out.2.1] at y33
      rw [← HQ.out.2.2] at y43
      have y103 := M3.out.t.c 10 _ rfl
      have i03 : w3.cell? ⟨U, 0, none⟩ = some (.int .i64 3) := by have := U3.out.ob.c 0 _ rfl; rw [hon] at this; exact this
      clear e3 P3))
  all_goals
    clear y1 y2 y3 y4 y10 i0 i1 y13 y23 y33 y43
    go_wp2_with fail
    go_end0
    rw [HR.out, ← HQ.out.1, ← HQ.out.2.1, ← HQ.out.2.2]
    exact ⟨rfl, _, M3.out.e, M3.out.p, p, a, some ⟨U, 0, none⟩, M3.out.t, fun _ => ⟨HP.out.1, H00.out⟩, (fun g => absurd g (by dsimp only; omega)), (fun g => absurd g (by dsimp only; omega)), fun _ => ⟨U, rfl, by have := U3.out; rw [HP.out.1] at this; exact this⟩, (fun g => absurd g (by dsimp only; omega)), (fun g => absurd g (by dsimp only; omega))⟩
set_option maxHeartbeats 4000000 in
set_option maxRecDepth 100000 in
theorem c_re8_2 {z : Evm} (hW : RW w O C f s m) (hX : ReAt w O k R z) (hz : EvOk z) (hl : z.ln = 8) (ho : z.o.ln = 2) (hk : 10 ≤ k) (hm : m ≤ 900000) (hhi : ∀ j, O j ≠ 0 → j < w.heap.size) (n0 : 0 ≤ s.n) (n1 : s.n ≤ 4611686018427387904) :
    Calls Tryz.prog 123 #[.pointer (some ⟨R, 0, none⟩), .pointer (some ⟨C.p, 0, none⟩)] w (REPost w O C f k R m (evStep (s, z))) := by
  obtain ⟨r, hr⟩ : ∃ r, r = evStep (s, z) := ⟨_, rfl⟩
  rw [← hr]
  rw [evStep_8 s z hl] at hr
  obtain ⟨ln, t, h, n, ref, mk, o⟩ := z
  dsimp only at hl
  subst hl
  obtain ⟨p, a, u, hx, c1, c2, c3, c4, c5, c6⟩ := hX.ex
  dsimp only at c1 c2 c3 c4 c5 c6 hr
  have HM : Hid (Md k (k + 3) w O w O C f s m k R (reCs ⟨8, t, h, n, ref, mk, o⟩ p a u)) := Lib.hid (Md.start hhi hW hx)
  have x0 := hx.c 0 _ rfl
  dsimp only at x0
  unfold REPost
  have hp : p = plAt t (h + n) := (c1 ⟨by decide, by decide⟩).1
  have hr00 := (c1 ⟨by decide, by decide⟩).2
  have H00 := Lib.hid hr00
  have hpo : p.ok := by rw [hp]; exact plAt_ok _ _
  obtain ⟨l0, l1, t0, t1, h0, h1, m0, m1, m2, r0, r1, k0, k1, w0, w1, o8⟩ := hz
  dsimp only at t0 t1 h0 h1 m0 m1 m2 r0 r1 k0 k1 w0 w1
  have h1 := h1 (.inl (by decide))
  have HT := Lib.hid (And.intro t0 (And.intro t1 (And.intro m0 m1)))
  have HP := Lib.hid (And.intro hp hpo)

  obtain ⟨U, rfl, hU⟩ := c4 (by decide)
  obtain ⟨oln, ow⟩ := o
  dsimp only at ho w0 w1
  subst ho
  have es : evSpot ⟨8, t, h, n, ref, mk, ⟨2, ow⟩⟩ = p := hp.symm
  rw [es] at hU hr
  have HM : Hid (Md k (k + 3) w O w O C f s m k R (reCs ⟨8, t, h, n, ref, mk, ⟨2, ow⟩⟩ p a (some ⟨U, 0, none⟩))) := HM
  have HK := Lib.hid (c_rOutStep (k := k + 3) ⟨2, ow⟩ hW hU hpo (show (2 : Nat) < 3 by decide) w0 w1 (by omega) hm hhi n0 n1)
  have hon : (outStep p s ⟨2, ow⟩).2.ln = 3 := rfl
  obtain ⟨o2, ho2⟩ : ∃ o2, o2 = (outStep p s ⟨2, ow⟩).2 := ⟨_, rfl⟩
  obtain ⟨s2, hs2⟩ : ∃ s2, s2 = (outStep p s ⟨2, ow⟩).1 := ⟨_, rfl⟩
  rw [← ho2, ← hs2] at HK hr
  rw [← ho2] at hon
  have hr : r = (s2, ⟨9, t, h, n, ref, mk, o2⟩) := hr
  have HR := Lib.hid hr
  have j1 : w.cell? ⟨U, 1, none⟩ = some (.bool true) := hU.ob.c 1 _ rfl
  have x10 := hx.c 10 _ rfl
  clear es ho2 hs2 hU
  clear hr00 hW hX hx hhi c1 c2 c3 c4 c5 c6 hr hp hpo l0 l1 t0 t1 h0 h1 m0 m1 m2 r0 r1 k0 k1 w0 w1 o8
  go_enter Tryz.func123, Tryz.ntmps123
  go_wp2_with fail
  refine HK.out.mono ?_
  rintro e w2 ⟨rfl, G2, e2, P2, u2⟩
  have M2 := Lib.hid (HM.out.call hk (by omega) (by omega) (by omega) e2 P2)
  have U2 := Lib.hid u2
  have i0 : w2.cell? ⟨U, 0, none⟩ = some (.int .i64 0) := by have := u2.ob.c 0 _ rfl; rw [hon] at this; exact this
  have i1 : w2.cell? ⟨U, 1, none⟩ = some (.bool true) := by have := u2.ob.c 1 _ rfl; rw [hon] at this; exact this
  have y10 := M2.out.t.c 10 _ rfl
  clear HK e2 P2 u2 j1 x10 x0

  have y0 := M2.out.t.c 0 _ rfl
  have f0 := M2.out.t.f 0
  have M3 := Lib.hid (M2.out.set hk (Nat.le_refl _) (by omega) 0 (.int .i64 9) (by simp [reCs]))

  have y0 : w2.cell? ⟨R, 0, none⟩ = some (.int .i64 8) := y0
  go_upto_region 14 with fail
  obtain ⟨w3, hw3⟩ : ∃ w3, w3 = w2.setCell ⟨R, 0, none⟩ (.int .i64 9) := ⟨_, rfl⟩
  rw [← hw3] at M3 ⊢
  clear hw3 y0 f0 y10 i0 i1
  have y2 := M3.out.t.c 2 _ rfl
  have y3 := M3.out.t.c 3 _ rfl

  obtain ⟨W3, hW3⟩ : ∃ W3, W3 = w3.alloc (.cells #[.int .i64 p.b, .int .i64 p.q] 43) := ⟨_, rfl⟩
  have bW3 : Below w3.heap.size w3 W3 := by rw [hW3]; exact (Below.refl _ _).alloc (Nat.le_refl _) _
  have N3 := Lib.hid (M3.out.below bW3)
  have u0 : W3.cell? ⟨w3.heap.size, 0, none⟩ = some (.int .i64 p.b) := by rw [hW3]; simp
  have u1 : W3.cell? ⟨w3.heap.size, 0 + 1, none⟩ = some (.int .i64 p.q) := by rw [hW3]; simp
  have ul : w3.heap.size < W3.heap.size := by rw [hW3]; simp
  go_wp2_with fail
  rw [← hW3]
  clear hW3
  refine (c_rNewMark1 p HP.out.2 (b := w3.heap.size) (o := 0) (c := 1) (k + 1) (by omega) ⟨Nat.le_refl _, by unfold maxLen; omega⟩ ul u0 u1 N3.out.e.hi).mono ?_
  clear u0 u1 ul y2 y3
  rintro e w4 ⟨A, rfl, G4, e4, a4⟩
  have M4 := Lib.hid (N3.out.oth hk e4 (fun t h => by omega))
  have A4 := Lib.hid a4
  clear e4 a4 bW3

  have y9 := M4.out.t.c 9 _ rfl
  have f9 := M4.out.t.f 9
  have EE := Lib.hid (ext_set (j := 9) (v := .pointer (some ⟨A, 0, none⟩)) M4.out.e.hi M4.out.t hk)
  have M5 := Lib.hid (M4.out.set hk (Nat.le_refl _) (by omega) 9 (.pointer (some ⟨A, 0, none⟩)) (by simp [reCs]))
  go_wp2_with fail
  go_end0
  rw [HR.out]
  have hA := A4.out.ext EE.out (by omega) (by omega)
  exact ⟨rfl, _, M5.out.e, M5.out.p, p, some ⟨A, 0, none⟩, some ⟨U, 0, none⟩, M5.out.t, fun _ => ⟨HP.out.1, H00.out⟩, (fun g => absurd g (by dsimp only; omega)), fun _ => ⟨A, rfl, by rw [HP.out.1] at hA; exact hA⟩, (fun g => absurd g (by dsimp only; omega)), (fun g => absurd g (by dsimp only; omega)), (fun g => absurd g (by dsimp only; omega))⟩
set_option maxHeartbeats 4000000 in
set_option maxRecDepth 100000 in
theorem c_re10 {z : Evm} (hW : RW w O C f s m) (hX : ReAt w O k R z) (hz : EvOk z) (hl : z.ln = 10) (hk : 10 ≤ k) (hm : m ≤ 900000) (hhi : ∀ j, O j ≠ 0 → j < w.heap.size) (n0 : 0 ≤ s.n) (n1 : s.n ≤ 4611686018427387904) :
    Calls Tryz.prog 123 #[.pointer (some ⟨R, 0, none⟩), .pointer (some ⟨C.p, 0, none⟩)] w (REPost w O C f k R m (evStep (s, z))) := by
  obtain ⟨r, hr⟩ : ∃ r, r = evStep (s, z) := ⟨_, rfl⟩
  rw [← hr]
  rw [evStep_10 s z hl] at hr
  obtain ⟨ln, t, h, n, ref, mk, o⟩ := z
  dsimp only at hl
  subst hl
  obtain ⟨p, a, u, hx, c1, c2, c3, c4, c5, c6⟩ := hX.ex
  dsimp only at c1 c2 c3 c4 c5 c6 hr
  have HM : Hid (Md k (k + 3) w O w O C f s m k R (reCs ⟨10, t, h, n, ref, mk, o⟩ p a u)) := Lib.hid (Md.start hhi hW hx)
  have x0 := hx.c 0 _ rfl
  dsimp only at x0
  unfold REPost
  have hp : p = plAt t (h + n) := (c1 ⟨by decide, by decide⟩).1
  have hr00 := (c1 ⟨by decide, by decide⟩).2
  have H00 := Lib.hid hr00
  have hpo : p.ok := by rw [hp]; exact plAt_ok _ _
  obtain ⟨l0, l1, t0, t1, h0, h1, m0, m1, m2, r0, r1, k0, k1, w0, w1, o8⟩ := hz
  dsimp only at t0 t1 h0 h1 m0 m1 m2 r0 r1 k0 k1 w0 w1
  have h1 := h1 (.inl (by decide))
  have HT := Lib.hid (And.intro t0 (And.intro t1 (And.intro m0 m1)))
  have HP := Lib.hid (And.intro hp hpo)
  have HR := Lib.hid hr
  clear hr00 hW hX hx hhi c1 c2 c3 c4 c5 c6 hr hp hpo l0 l1 t0 t1 h0 h1 m0 m1 m2 r0 r1 k0 k1 w0 w1 o8
  go_enter Tryz.func123, Tryz.ntmps123
  go_wp2_with fail
  refine (c_rwAdd 6 18446744073709551615 HM.out.p (by omega) (by decide) (by decide) (by decide) (by decide) HM.out.e.hi n0 n1).mono ?_
  rintro e w2 ⟨rfl, G2, e2, P2⟩
  have M2 := Lib.hid (HM.out.world hk e2 P2)

  have y0 := M2.out.t.c 0 _ rfl
  have f0 := M2.out.t.f 0
  have M3 := Lib.hid (M2.out.set hk (Nat.le_refl _) (by omega) 0 (.int .i64 11) (by simp [reCs]))

  clear e2 P2 x0
  go_wp2_with fail
  go_end0
  rw [HR.out]
  exact ⟨rfl, _, M3.out.e, M3.out.p, ReAt.simple p a u M3.out.t (fun g => absurd g (by dsimp only; omega)) (fun _ => by rw [if_neg H00.out]; exact HP.out.1) (by dsimp only; omega) (fun g => absurd g (by dsimp only; omega))⟩
set_option maxHeartbeats 4000000 in
set_option maxRecDepth 100000 in
theorem c_re12 {z : Evm} (hW : RW w O C f s m) (hX : ReAt w O k R z) (hz : EvOk z) (hl : z.ln = 12) (hk : 10 ≤ k) (hm : m ≤ 900000) (hhi : ∀ j, O j ≠ 0 → j < w.heap.size) (n0 : 0 ≤ s.n) (n1 : s.n ≤ 4611686018427387904) :
    Calls Tryz.prog 123 #[.pointer (some ⟨R, 0, none⟩), .pointer (some ⟨C.p, 0, none⟩)] w (REPost w O C f k R m (evStep (s, z))) := by
  obtain ⟨r, hr⟩ : ∃ r, r = evStep (s, z) := ⟨_, rfl⟩
  rw [← hr]
  rw [evStep_12 s z hl] at hr
  obtain ⟨ln, t, h, n, ref, mk, o⟩ := z
  dsimp only at hl
  subst hl
  obtain ⟨p, a, u, hx, c1, c2, c3, c4, c5, c6⟩ := hX.ex
  dsimp only at c1 c2 c3 c4 c5 c6 hr
  have HM : Hid (Md k (k + 3) w O w O C f s m k R (reCs ⟨12, t, h, n, ref, mk, o⟩ p a u)) := Lib.hid (Md.start hhi hW hx)
  have x0 := hx.c 0 _ rfl
  dsimp only at x0
  unfold REPost
  have HR := Lib.hid hr

  have H2 := Lib.hid (c2 (by decide))
  clear hW hX hx hhi c1 c2 c3 c4 c5 c6 hr hz
  go_enter Tryz.func123, Tryz.ntmps123
  go_wp2_with fail
  refine (c_rwStore 5 0 HM.out.p (by omega) (by decide) (by decide) (by decide) (by decide) HM.out.e.hi n0 n1).mono ?_
  rintro e w2 ⟨rfl, G2, e2, P2⟩
  have M2 := Lib.hid (HM.out.world hk e2 P2)

  have y0 := M2.out.t.c 0 _ rfl
  have f0 := M2.out.t.f 0
  have M3 := Lib.hid (M2.out.set hk (Nat.le_refl _) (by omega) 0 (.int .i64 0) (by simp [reCs]))

  clear e2 P2 x0
  go_wp2_with fail
  go_end0
  rw [HR.out]
  exact ⟨rfl, _, M3.out.e, M3.out.p, ReAt.simple p a u M3.out.t (fun g => absurd g (by dsimp only; omega)) (fun _ => H2.out) (by dsimp only; omega) (fun g => absurd g (by dsimp only; omega))⟩
end
end Go.Proofs.YtlcibfpibklbdaaGreat
