/- Layer 23: an Evict's line 11; its step; what it got. -/
import Derived.Test.YtlcibfpibklbdaaGreatHd3
namespace Go.Proofs.YtlcibfpibklbdaaGreat
set_option linter.unusedSimpArgs false
open Go.RowKit Go.Shelf
set_option linter.unusedVariables false

section
variable {X : Nat} {w : World} {O : Om} {B : Wb} {f : Cf} {s : AW} {k : Nat}
set_option maxHeartbeats 4000000 in
set_option maxRecDepth 100000 in
theorem c_moves0 (z : Evm) (all : Int) (a ou l : Option Addr) (hP : PW w O B f s) (hx : Ob w O k X (evCs z all a ou l)) (hr : z.ref = 0) (h0 : 0 ≤ z.h) (h1 : z.h < 32768) (hk : 10 ≤ k) (hhi : ∀ j, O j ≠ 0 → j < w.heap.size) (n0 : 0 ≤ s.n) (n1 : s.n ≤ 4611686018427387904) :
    Calls Tryz.prog 150 #[.pointer (some ⟨X, 0, none⟩), .pointer (some ⟨B.p, 0, none⟩)] w (RP (SX k k) w O (.tuple #[]) fun W G => PW W G B f (awNote 8 0 0 0 0 z.n (awStore 4 z.h s)) ∧ Ob W G k X (evCs z all a ou l)) := by
  obtain ⟨ln, t, h, n, ref, mk, o⟩ := z
  dsimp only at hr h0 h1 ⊢
  subst hr
  have HM : Hid (Me k k w O w O B f s k X (evCs ⟨ln, t, h, n, 0, mk, o⟩ all a ou l)) := Lib.hid (Me.start hhi hP hx)
  have x5 := hx.c 5 _ rfl
  have x3 := hx.c 3 _ rfl
  have p0 := hP.wo.c0
  dsimp only at x5 x3
  have hw : IntKind.u64.wrap h = h := by rw [IntKind.wrap_u64]; omega
  clear hP hx hhi
  go_enter Tryz.func150, Tryz.ntmps150
  go_wp2_with fail
  go_region_held3 (fun w' => w'.cell? ⟨B.p, 0, none⟩ = some (.pointer (some ⟨B.c, 0, none⟩)) ∧ w'.cell? ⟨X, 3, none⟩ = some (.int .i64 h)) (go_keep)
    ((go_at_call 39
      refine (c_StoreP 4 h (w := w.drew) HM.out.drew.p HM.out.drew.e.hi (by decide) (by decide) h0 (by omega) n0 n1).mono ?_
      rintro e w1 ⟨rfl, G1, e1, P1⟩
      have M1 := Lib.hid (HM.out.drew.world hk e1 P1)
      have p01 := M1.out.p.wo.c0
      have x31 := M1.out.t.c 3 _ rfl
      have x41 := M1.out.t.c 4 _ rfl
      dsimp only at x31 x41
      clear e1 P1))
  all_goals
    clear x5 x3 p0 p01 x31
    go_wp2_with fail
    refine (c_WNote 8 0 0 0 0 n M1.out.p M1.out.e.hi (by decide) (by decide)).mono ?_
    rintro e w2 ⟨rfl, G2, e2, P2⟩
    have M2 := Lib.hid (M1.out.world hk e2 P2)
    clear e2 P2
    go_wp2_with fail
    go_end0
    exact M2.out.rp
set_option maxHeartbeats 4000000 in
set_option maxRecDepth 100000 in
theorem c_moves1 (z : Evm) (all : Int) (a ou l : Option Addr) (hP : PW w O B f s) (hx : Ob w O k X (evCs z all a ou l)) (hal : all = plSpots z.t) (hr : z.ref ≠ 0) (t0 : 0 ≤ z.t) (t1 : z.t < 18446744073709551616) (h0 : 0 ≤ z.h) (h1 : z.h < 32768) (m0 : 0 ≤ z.n) (m1 : z.n ≤ 65536) (hk : 10 ≤ k) (hhi : ∀ j, O j ≠ 0 → j < w.heap.size) (n0 : 0 ≤ s.n) (n1 : s.n ≤ 4611686018427387904) :
    Calls Tryz.prog 150 #[.pointer (some ⟨X, 0, none⟩), .pointer (some ⟨B.p, 0, none⟩)] w (RP (SX k k) w O (.tuple #[]) fun W G => PW W G B f (awNote 8 z.ref (evSpot z).b (evSpot z).q (evSpot z).s (z.n + 1) (awStore 4 ((z.h + z.n + 1) % plSpots z.t) s)) ∧ Ob W G k X (evCs z all a ou l)) := by
  obtain ⟨ln, t, h, n, ref, mk, o⟩ := z
  dsimp only at hal hr t0 t1 h0 h1 m0 m1 ⊢
  have hsp := plSpots_bd t
  rw [← hal] at hsp ⊢
  have HM : Hid (Me k k w O w O B f s k X (evCs ⟨ln, t, h, n, ref, mk, o⟩ all a ou l)) := Lib.hid (Me.start hhi hP hx)
  have x5 := hx.c 5 _ rfl
  have x3 := hx.c 3 _ rfl
  have x4 := hx.c 4 _ rfl
  have x2 := hx.c 2 _ rfl
  have p0 := hP.wo.c0
  dsimp only at x5 x3 x4
  have dr : (ref == 0) = false := by simp [hr]
  have hw1 : wrap64 (h + n) = h + n := by unfold wrap64; omega
  have hw2 : IntKind.i64.wrap (h + n) = h + n := by simp [IntKind.wrap, IntKind.bits, IntKind.signed]; omega
  have hw3 : wrap64 (h + n + 1) = h + n + 1 := by unfold wrap64; omega
  have hw4 : IntKind.i64.wrap (h + n + 1) = h + n + 1 := by simp [IntKind.wrap, IntKind.bits, IntKind.signed]; omega
  have hw5 : wrap64 (n + 1) = n + 1 := by unfold wrap64; omega
  have hw6 : IntKind.i64.wrap (n + 1) = n + 1 := by simp [IntKind.wrap, IntKind.bits, IntKind.signed]; omega
  have dz : (all == 0) = false := by rw [beq_eq_false_iff_ne]; omega
  have dz2 : ¬ all = 0 := by omega
  have dz3 : 0 < all := by omega
  have dn1 : (all == -1) = false := by rw [beq_eq_false_iff_ne]; omega
  have htm : (h + n + 1).tmod all = (h + n + 1) % all := Int.tmod_eq_emod_of_nonneg (by omega)
  have hm0 := Int.emod_nonneg (h + n + 1) (show all ≠ 0 by omega)
  have hm1 := Int.emod_lt_of_pos (h + n + 1) (show 0 < all by omega)
  obtain ⟨y, hy⟩ : ∃ y, y = (h + n + 1) % all := ⟨_, rfl⟩
  rw [← hy] at htm hm0 hm1 ⊢
  have wy : IntKind.u64.wrap y = y := by rw [IntKind.wrap_u64]; omega
  have wy2 : wrap64 y = y := by unfold wrap64; omega
  have wy3 : IntKind.i64.wrap y = y := by simp [IntKind.wrap, IntKind.bits, IntKind.signed]; omega
  have HSP := Lib.hid (fun (W : World) (g1 : W.cell? ⟨X, 1, none⟩ = some (.int .u64 t)) (g3 : W.cell? ⟨X, 3, none⟩ = some (.int .i64 h)) (g4 : W.cell? ⟨X, 4, none⟩ = some (.int .i64 n)) => c_EvSpot t h n g1 g3 g4 t0 t1 h0 h1 m0 m1)
  obtain ⟨v, hv⟩ : ∃ v, v = plAt t (h + n) := ⟨_, rfl⟩
  have esv : evSpot ⟨ln, t, h, n, ref, mk, o⟩ = v := hv.symm
  rw [esv]
  rw [← hv] at HSP
  clear hP hx hhi hal hr hy esv hv
  go_enter Tryz.func150, Tryz.ntmps150
  go_wp2_with fail
  go_region_held3 (fun w' => w'.cell? ⟨B.p, 0, none⟩ = some (.pointer (some ⟨B.c, 0, none⟩)) ∧ w'.cell? ⟨X, 2, none⟩ = some (.int .i64 all) ∧ w'.cell? ⟨X, 3, none⟩ = some (.int .i64 h) ∧ w'.cell? ⟨X, 4, none⟩ = some (.int .i64 n)) (go_keep)
    ((go_at_call 39
      refine (c_StoreP 4 y (w := w.drew) HM.out.drew.p HM.out.drew.e.hi (by decide) (by decide) hm0 (by omega) n0 n1).mono ?_
      rintro e w1 ⟨rfl, G1, e1, P1⟩
      have M1 := Lib.hid (HM.out.drew.world hk e1 P1)
      have p01 := M1.out.p.wo.c0
      have x21 := M1.out.t.c 2 _ rfl
      have x31 := M1.out.t.c 3 _ rfl
      have x41 := M1.out.t.c 4 _ rfl
      have x51 := M1.out.t.c 5 _ rfl
      dsimp only at x31 x41 x51
      clear e1 P1))
  all_goals
    clear x5 x3 x4 x2 p0 p01 x21 x31
    go_wp2_with fail
    go_region_held3 (fun w' => w'.cell? ⟨X, 4, none⟩ = some (.int .i64 n) ∧ w'.cell? ⟨X, 5, none⟩ = some (.int .i64 ref)) (go_keep)
      ((first
        | (go_at_call 77
           have N2 := Lib.hid M1.out.drew
           refine (HSP.out _ (N2.out.t.c 1 _ rfl) (N2.out.t.c 3 _ rfl) (N2.out.t.c 4 _ rfl)).mono ?_
           rintro e w3 ⟨rfl, hb3⟩
           have M3 := Lib.hid (N2.out.below hb3)
           have y43 := M3.out.t.c 4 _ rfl
           have y53 := M3.out.t.c 5 _ rfl
           clear hb3)
        | (go_at_call 148
           refine (c_WNote 8 ref v.b v.q v.s (n + 1) M3.out.p M3.out.e.hi (by decide) (by decide)).mono ?_
           rintro e w4 ⟨rfl, G4, e4, P4⟩
           have M4 := Lib.hid (M3.out.world hk e4 P4)
           have y44 := M4.out.t.c 4 _ rfl
           have y54 := M4.out.t.c 5 _ rfl
           clear e4 P4)))
    all_goals
      go_wp2_with fail
      go_end0
      exact M4.out.rp
set_option maxHeartbeats 4000000 in
set_option maxRecDepth 100000 in
theorem c_goes11 {z : Evm} (hP : PW w O B f s) (hX : EvAt w O k X z) (hz : EvOk z) (hl : z.ln = 11) (hk : 10 ≤ k) (hhi : ∀ j, O j ≠ 0 → j < w.heap.size) (n0 : 0 ≤ s.n) (n1 : s.n ≤ 4611686018427387904) :
    Calls Tryz.prog 82 #[.pointer (some ⟨X, 0, none⟩), .pointer (some ⟨B.p, 0, none⟩)] w (EPost w O B f k X (evStep (s, z))) := by
  rw [evStep_11 s z hl]
  obtain ⟨ln, t, h, n, ref, mk, o⟩ := z
  dsimp only at hl
  subst hl
  obtain ⟨all, a, ou, l, hx, hall, ha7, ho7, hl7⟩ := hX.ex
  dsimp only at hall ha7 ho7 hl7 ⊢
  have x0 := hx.c 0 _ rfl
  have p0 := hP.wo.c0
  dsimp only at x0
  have HAL := Lib.hid (hall (by decide))
  unfold EPost
  have hh1 := hz.h1 (.inl (by show (4 : Int) ≤ 11; decide))
  have hh0 := hz.h0
  dsimp only at hh1 hh0
  have HM : Hid (Me k (k + 5) w O w O B f s k X (evCs ⟨11, t, h, n, ref, mk, o⟩ all a ou l)) := Lib.hid (Me.start hhi hP hx)
  obtain ⟨s2, hs2⟩ : ∃ s2, s2 = (if ref = 0 then awNote 8 0 0 0 0 n (awStore 4 h s) else awNote 8 ref (evSpot ⟨11, t, h, n, ref, mk, o⟩).b (evSpot ⟨11, t, h, n, ref, mk, o⟩).q (evSpot ⟨11, t, h, n, ref, mk, o⟩).s (n + 1) (awStore 4 ((h + n + 1) % plSpots t) s)) := ⟨_, rfl⟩
  have HK : Hid (Calls Tryz.prog 150 #[.pointer (some ⟨X, 0, none⟩), .pointer (some ⟨B.p, 0, none⟩)] w (RP (SX k k) w O (.tuple #[]) fun W G => PW W G B f s2 ∧ Ob W G k X (evCs ⟨11, t, h, n, ref, mk, o⟩ all a ou l))) := by
    refine Lib.hid ?_
    by_cases hr : ref = 0
    · rw [if_pos hr] at hs2
      rw [hs2]
      exact c_moves0 ⟨11, t, h, n, ref, mk, o⟩ all a ou l hP hx hr hh0 hh1 hk hhi n0 n1
    · rw [if_neg hr] at hs2
      rw [hs2]
      exact c_moves1 ⟨11, t, h, n, ref, mk, o⟩ all a ou l hP hx (hall (by decide)) hr hz.t0 hz.t1 hh0 hh1 hz.n0 hz.n1 hk hhi n0 n1
  rw [← hs2]
  clear hP hX hx hhi hall ha7 ho7 hl7 hs2 hh1 hh0
  go_enter Tryz.func82, Tryz.ntmps82
  go_wp2_with fail
  refine HK.out.mono ?_
  rintro e w2 ⟨rfl, G2, e2, P2, t2⟩
  have M2 : Hid (Me k (k + 5) w O w2 G2 B f s2 k X (evCs ⟨11, t, h, n, ref, mk, o⟩ all a ou l)) := Lib.hid ⟨HM.out.e.trans (e2.mono fun t _ g => SX.mono (Nat.le_refl _) (by omega) g), P2, t2⟩
  clear HK e2 P2 t2 x0 p0

  have q0 := M2.out.t.c 0 _ rfl
  have f0 := M2.out.t.f 0
  have M3 := Lib.hid (M2.out.set hk (Nat.le_refl _) (by omega) 0 (.int .i64 12) (by simp [evCs]))

  go_wp2_with fail
  go_ret
  exact ⟨rfl, _, M3.out.e, M3.out.p, EvAt.simple all a ou l M3.out.t (fun _ => HAL.out) (fun h => absurd (show (12 : Int) = 7 from h) (by decide)) (fun h => absurd (show (12 : Int) = 8 from h) (by decide)) (fun h => absurd (show (12 : Int) = 9 from h) (by decide))⟩
set_option maxHeartbeats 1000000 in
set_option maxRecDepth 100000 in
/-- Lines 7 to 12. -/
theorem c_EvGoes {z : Evm} (hX : EvAt w O k X z) (hl : 7 ≤ z.ln) (y : AW × Evm) (hg : Calls Tryz.prog 82 #[.pointer (some ⟨X, 0, none⟩), .pointer (some ⟨B.p, 0, none⟩)] w (EPost w O B f k X y)) (hp : w.cell? ⟨B.p, 0, none⟩ = some (.pointer (some ⟨B.c, 0, none⟩))) :
    Calls Tryz.prog 29 #[.pointer (some ⟨X, 0, none⟩), .pointer (some ⟨B.p, 0, none⟩)] w (EPost w O B f k X y) := by
  have x0 := hX.cell0
  obtain ⟨ln, hln⟩ : ∃ ln, ln = z.ln := ⟨_, rfl⟩
  rw [← hln] at x0 hl
  have d0 : (ln == 0) = false := by rw [beq_eq_false_iff_ne]; omega
  have d1 : (ln == 1) = false := by rw [beq_eq_false_iff_ne]; omega
  have d2 : (ln == 2) = false := by rw [beq_eq_false_iff_ne]; omega
  have d3 : (ln == 3) = false := by rw [beq_eq_false_iff_ne]; omega
  have d4 : (ln == 4) = false := by rw [beq_eq_false_iff_ne]; omega
  have d5 : (ln == 5) = false := by rw [beq_eq_false_iff_ne]; omega
  have d6 : (ln == 6) = false := by rw [beq_eq_false_iff_ne]; omega
  have HG := Lib.hid hg
  clear hX hg hln hl
  unfold EPost at HG ⊢
  go_enter Tryz.func29, Tryz.ntmps29
  go_wp2_with fail
  go_step3
  go_wp2_with fail
  refine (c_EvOver x0).mono ?_
  rintro e w' ⟨rfl, rfl⟩
  rw [d0]
  go_wp2_with fail
  refine HG.out.mono ?_
  rintro e w2 ⟨rfl, G2, e2, P2⟩
  have HE := Lib.hid (And.intro e2 P2)
  clear e2 P2 x0
  go_wp2_with fail
  go_ret
  exact ⟨rfl, G2, HE.out⟩
set_option maxHeartbeats 1000000 in
set_option maxRecDepth 100000 in
/-- An Evict that is over. -/
theorem c_EvStep0 {z : Evm} (hX : EvAt w O k X z) (hl : z.ln = 0) :
    Calls Tryz.prog 29 #[.pointer (some ⟨X, 0, none⟩), .pointer (some ⟨B.p, 0, none⟩)] w fun e w' => e = .returned (.bool true) ∧ w = w' := by
  have x0 := hX.cell0
  rw [hl] at x0
  clear hX hl
  go_enter Tryz.func29, Tryz.ntmps29
  go_wp2_with fail
  go_step3
  go_wp2_with fail
  refine (c_EvOver x0).mono ?_
  rintro e w' ⟨rfl, rfl⟩
  go_wp2_with fail
  refine (c_EvOver x0).mono ?_
  rintro e w' ⟨rfl, rfl⟩
  go_wp2_with fail
  rw [Exit.noGoto_ret]
  go_ret
  exact ⟨rfl, rfl⟩
theorem evStep_0 (s : AW) (z : Evm) (h : z.ln = 0) : evStep (s, z) = (s, z) := by
  unfold evStep
  dsimp only
  rw [if_neg (by omega), if_neg (by omega), if_neg (by omega), if_neg (by omega), if_neg (by omega), if_neg (by omega), if_neg (by omega), if_neg (by omega), if_neg (by omega), if_neg (by omega), if_neg (by omega), if_neg (by omega)]
theorem c_EvStep {z : Evm} (hP : PW w O B f s) (hX : EvAt w O k X z) (hz : EvOk z) (hk : 10 ≤ k) (hhi : ∀ j, O j ≠ 0 → j < w.heap.size) (n0 : 0 ≤ s.n) (n1 : s.n ≤ 4611686018427387904) :
    Calls Tryz.prog 29 #[.pointer (some ⟨X, 0, none⟩), .pointer (some ⟨B.p, 0, none⟩)] w (EPost w O B f k X (evStep (s, z))) := by
  have l0 := hz.l0
  have l1 := hz.l1
  by_cases e0 : z.ln = 0
  · rw [evStep_0 s z e0]
    refine (c_EvStep0 hX e0).mono ?_
    rintro e w' ⟨rfl, rfl⟩
    exact ⟨by rw [show evOver z = true by unfold evOver; simp [e0]], O, Ext.refl hhi, hP, hX⟩
  have h : z.ln = 1 ∨ z.ln = 2 ∨ z.ln = 3 ∨ z.ln = 4 ∨ z.ln = 5 ∨ z.ln = 6 ∨ z.ln = 7 ∨ z.ln = 8 ∨ z.ln = 9 ∨ z.ln = 10 ∨ z.ln = 11 ∨ z.ln = 12 := by omega
  rcases h with h | h | h | h | h | h | h | h | h | h | h | h
  · exact c_Ev1 hP hX hz h hk hhi n0 n1
  · exact c_Ev2 hP hX hz h hk hhi n0 n1
  · exact c_Ev3 hP hX hz h hk hhi n0 n1
  · exact c_Ev4 hP hX hz h hk hhi n0 n1
  · exact c_Ev5 hP hX hz h hk hhi n0 n1
  · exact c_Ev6 hP hX hz h hk hhi n0 n1
  · exact c_EvGoes hX (by omega) _ (c_goes7 hP hX hz h hk hhi n0 n1) hP.wo.c0
  · have ho := hz.o8 (.inr h)
    have ho3 : z.o.ln = 0 ∨ z.o.ln = 1 ∨ z.o.ln = 2 := by omega
    rcases ho3 with g | g | g
    · exact c_EvGoes hX (by omega) _ (c_goes8_0 hP hX hz h g hk hhi n0 n1) hP.wo.c0
    · exact c_EvGoes hX (by omega) _ (c_goes8_1 hP hX hz h g hk hhi n0 n1) hP.wo.c0
    · exact c_EvGoes hX (by omega) _ (c_goes8_2 hP hX hz h g hk hhi n0 n1) hP.wo.c0
  · exact c_EvGoes hX (by omega) _ (c_goes9 hP hX hz h hk hhi n0 n1) hP.wo.c0
  · exact c_EvGoes hX (by omega) _ (c_goes10 hP hX hz h hk hhi n0 n1) hP.wo.c0
  · exact c_EvGoes hX (by omega) _ (c_goes11 hP hX hz h hk hhi n0 n1) hP.wo.c0
  · exact c_EvGoes hX (by omega) _ (c_goes12 hP hX hz h hk hhi n0 n1) hP.wo.c0
def spV (p : Spt) : Value := .agg #[.int .i64 p.b, .int .i64 p.q, .int .i64 p.s]
set_option maxHeartbeats 2000000 in
set_option maxRecDepth 100000 in
theorem c_EvGot {z : Evm} (hX : EvAt w O k X z) (hz : EvOk z) :
    Calls Tryz.prog 22 #[.pointer (some ⟨X, 0, none⟩)] w fun e w' => e = .returned (.tuple #[.int .i64 (evGot z).1, spV (evGot z).2]) ∧ Below w.heap.size w w' := by
  obtain ⟨all, a, ou, l, hx, -⟩ := hX.ex
  have x0 := hx.c 0 _ rfl
  have x1 := hx.c 1 _ rfl
  have x3 := hx.c 3 _ rfl
  have x4 := hx.c 4 _ rfl
  have x5 := hx.c 5 _ rfl
  have hl := hx.lt
  have hw1 := hz.h1
  obtain ⟨l0, l1, t0, t1, h0, -, m0, m1, -, -, -, -, -, -, -, -⟩ := hz
  obtain ⟨ln, t, h, n, ref, mk, o⟩ := z
  dsimp only at x0 x1 x3 x4 x5 l0 l1 t0 t1 h0 m0 m1 hw1
  clear hX hx
  by_cases e0 : ln = 0
  · subst e0
    by_cases er : ref = 0
    · subst er
      have hg : evGot ⟨0, t, h, n, 0, mk, o⟩ = (0, ⟨0, 0, 0⟩) := by unfold evGot; rw [if_neg (by simp)]
      rw [hg]
      dsimp only [spV]
      clear hg hw1
      go_enter Tryz.func22, Tryz.ntmps22
      go_wp2_with fail
      exact bodyPost_ret (v := .tuple #[.int .i64 0, .agg #[.int .i64 0, .int .i64 0, .int .i64 0]]) (by simp [results, Tryz.results22, go_sem]) rfl ⟨rfl, by first | exact (Below.refl _ _).alloc (Nat.le_refl _) _ | exact ((((Below.refl _ _).alloc (Nat.le_refl _) _).setCell (p := ⟨w.heap.size, 0, none⟩) (Nat.le_refl _) _).setCell (p := ⟨w.heap.size, 1, none⟩) (Nat.le_refl _) _).setCell (p := ⟨w.heap.size, 2, none⟩) (Nat.le_refl _) _⟩
    · have hg : evGot ⟨0, t, h, n, ref, mk, o⟩ = (ref, plAt t (h + n)) := by unfold evGot; rw [if_pos ⟨rfl, er⟩]; rfl
      rw [hg]
      dsimp only
      have dr : (ref == 0) = false := by simp [er]
      have h1 := hw1 (.inr rfl)
      have HSP := Lib.hid (fun (W : World) (g1 : W.cell? ⟨X, 1, none⟩ = some (.int .u64 t)) (g3 : W.cell? ⟨X, 3, none⟩ = some (.int .i64 h)) (g4 : W.cell? ⟨X, 4, none⟩ = some (.int .i64 n)) => c_EvSpot t h n g1 g3 g4 t0 t1 h0 h1 m0 m1)
      obtain ⟨v, hv⟩ : ∃ v, v = plAt t (h + n) := ⟨_, rfl⟩
      rw [← hv] at HSP ⊢
      unfold spV
      clear hg hw1 er hv
      have hB : ∀ o, Below w.heap.size w (w.alloc o) := fun o => (Below.refl _ _).alloc (Nat.le_refl _) o
      have HB := Lib.hid hB
      have hne : ¬ X = w.heap.size := by omega
      have hne2 : ¬ w.heap.size = X := by omega
      clear hB
      go_enter Tryz.func22, Tryz.ntmps22
      go_wp2_with fail
      obtain ⟨W, hW⟩ : ∃ W, W = w.alloc (.cells #[.int .i64 0, .int .i64 0, .int .i64 0] 45) := ⟨_, rfl⟩
      have hB : Below w.heap.size w W := by rw [hW]; exact HB.out _
      have y1 := (hB.cell (p := ⟨X, 1, none⟩) hl).trans x1
      have y3 := (hB.cell (p := ⟨X, 3, none⟩) hl).trans x3
      have y4 := (hB.cell (p := ⟨X, 4, none⟩) hl).trans x4
      have y5 := (hB.cell (p := ⟨X, 5, none⟩) hl).trans x5
      have hlW : X < W.heap.size := Nat.lt_of_lt_of_le hl hB.size
      have hwl : w.heap.size < W.heap.size := by rw [hW]; simp
      have z0 : W.cell? ⟨w.heap.size, 0, none⟩ = some (.int .i64 0) := by rw [hW]; simp
      have z1 : W.cell? ⟨w.heap.size, 1, none⟩ = some (.int .i64 0) := by rw [hW]; simp
      have z2 : W.cell? ⟨w.heap.size, 2, none⟩ = some (.int .i64 0) := by rw [hW]; simp
      have zf : ∀ j, W.frozen? ⟨w.heap.size, j, none⟩ = false := fun j => by rw [hW]; exact frozen_newA w #[.int .i64 0, .int .i64 0, .int .i64 0] _ _ rfl j
      have HZ := Lib.hid (And.intro z0 (And.intro z1 (And.intro z2 zf)))
      have HBW := Lib.hid hB
      try rw [← hW]
      clear hW hB z0 z1 z2 zf
      go_region_held3 (fun w' => w'.cell? ⟨X, 5, none⟩ = some (.int .i64 ref)) (go_keep)
        ((go_at_call 77
          refine (HSP.out _ (by first | exact y1 | exact x1) (by first | exact y3 | exact x3) (by first | exact y4 | exact x4)).mono ?_
          rintro e w1 ⟨rfl, hb1⟩
          have x51 := (hb1.cell (p := ⟨X, 5, none⟩) hlW).trans y5
          have z0 := (hb1.cell (p := ⟨w.heap.size, 0, none⟩) hwl).trans HZ.out.1
          have z1 := (hb1.cell (p := ⟨w.heap.size, 1, none⟩) hwl).trans HZ.out.2.1
          have z2 := (hb1.cell (p := ⟨w.heap.size, 2, none⟩) hwl).trans HZ.out.2.2.1
          have zf0 := (hb1.frozen (p := ⟨w.heap.size, 0, none⟩) hwl).trans (HZ.out.2.2.2 0)
          have zf1 := (hb1.frozen (p := ⟨w.heap.size, 1, none⟩) hwl).trans (HZ.out.2.2.2 1)
          have zf2 := (hb1.frozen (p := ⟨w.heap.size, 2, none⟩) hwl).trans (HZ.out.2.2.2 2)
          have zl : w.heap.size < w1.heap.size := Nat.lt_of_lt_of_le hwl hb1.size
          have HB1 := Lib.hid (HBW.out.drew.trans (hb1.mono (by simp; omega)))
          clear hb1))
      all_goals
        go_wp2_with fail
        exact bodyPost_ret (v := .tuple #[.int .i64 ref, .agg #[.int .i64 v.b, .int .i64 v.q, .int .i64 v.s]]) (by simp [results, Tryz.results22, go_sem, *]) rfl ⟨rfl, ((HB1.out.setCell (p := ⟨w.heap.size, 0, none⟩) (Nat.le_refl _) _).setCell (p := ⟨w.heap.size, 1, none⟩) (Nat.le_refl _) _).setCell (p := ⟨w.heap.size, 2, none⟩) (Nat.le_refl _) _⟩
  · have hg : evGot ⟨ln, t, h, n, ref, mk, o⟩ = (0, ⟨0, 0, 0⟩) := by unfold evGot; rw [if_neg (by intro g; exact e0 g.1)]
    rw [hg]
    dsimp only [spV]
    have d0 : (ln != 0) = true := by simp [e0]
    clear hg hw1 e0
    go_enter Tryz.func22, Tryz.ntmps22
    go_wp2_with fail
    exact bodyPost_ret (v := .tuple #[.int .i64 0, .agg #[.int .i64 0, .int .i64 0, .int .i64 0]]) (by simp [results, Tryz.results22, go_sem]) rfl ⟨rfl, by first | exact (Below.refl _ _).alloc (Nat.le_refl _) _ | exact ((((Below.refl _ _).alloc (Nat.le_refl _) _).setCell (p := ⟨w.heap.size, 0, none⟩) (Nat.le_refl _) _).setCell (p := ⟨w.heap.size, 1, none⟩) (Nat.le_refl _) _).setCell (p := ⟨w.heap.size, 2, none⟩) (Nat.le_refl _) _⟩
end
end Go.Proofs.YtlcibfpibklbdaaGreat
