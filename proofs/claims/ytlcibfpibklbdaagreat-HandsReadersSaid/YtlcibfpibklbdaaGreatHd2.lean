/- Layer 23: an Evict's line 5. -/
import Derived.Test.YtlcibfpibklbdaaGreatHd1
namespace Go.Proofs.YtlcibfpibklbdaaGreat
set_option linter.unusedSimpArgs false
open Go.RowKit Go.Shelf
set_option linter.unusedVariables false

@[go_sem] theorem fld_spot0 (a b c : Value) (w : World) : (Instr.field 45 (.agg #[a, b, c]) 0).run Tryz.prog w = .ok (.agg #[a, b]) w := by kernel_rfl
section
variable {X : Nat} {w : World} {O : Om} {B : Wb} {f : Cf} {s : AW} {k : Nat}
set_option maxHeartbeats 4000000 in
set_option maxRecDepth 100000 in
theorem c_Ev5 {z : Evm} (hP : PW w O B f s) (hX : EvAt w O k X z) (hz : EvOk z) (hl : z.ln = 5) (hk : 10 ≤ k) (hhi : ∀ j, O j ≠ 0 → j < w.heap.size) (n0 : 0 ≤ s.n) (n1 : s.n ≤ 4611686018427387904) :
    Calls Tryz.prog 29 #[.pointer (some ⟨X, 0, none⟩), .pointer (some ⟨B.p, 0, none⟩)] w (EPost w O B f k X (evStep (s, z))) := by
  rw [evStep_5 s z hl]
  obtain ⟨ln, t, h, n, ref, mk, o⟩ := z
  dsimp only at hl
  subst hl
  obtain ⟨all, a, ou, l, hx, hall, -, -, -⟩ := hX.ex
  dsimp only at hall ⊢
  have HM : Hid (Me k (k + 5) w O w O B f s k X (evCs ⟨5, t, h, n, ref, mk, o⟩ all a ou l)) := Lib.hid (Me.start hhi hP hx)
  have x0 := hx.c 0 _ rfl
  have p0 := hP.wo.c0
  dsimp only at x0
  unfold EPost
  obtain ⟨l0, l1, t0, t1, h0, h1, m0, m1, m2, r0, r1, k0, k1, w0, w1, o8⟩ := hz
  dsimp only at t0 t1 h0 h1 m0 m1 m2 r0 r1 k0 k1
  have h1 := h1 (by first | exact .inl (by decide) | exact .inr rfl)
  have hal := hall (by decide)
  have HAL := Lib.hid hal
  have hsp := plSpots_bd t
  rw [← hal] at hsp
  have hw1 : wrap64 (n + 1) = n + 1 := by unfold wrap64; omega
  have hw2 : IntKind.i64.wrap (n + 1) = n + 1 := by simp [IntKind.wrap, IntKind.bits, IntKind.signed]; omega
  have hw3 : wrap64 (2 * all) = 2 * all := by unfold wrap64; omega
  have hw4 : IntKind.i64.wrap (2 * all) = 2 * all := by simp [IntKind.wrap, IntKind.bits, IntKind.signed]; omega
  obtain ⟨v, hv⟩ : ∃ v, v = plAt t (h + n) := ⟨_, rfl⟩
  have hvo : v.ok := by rw [hv]; exact plAt_ok _ _
  have HV := Lib.hid (And.intro hv hvo)
  have HSP := Lib.hid (fun (W : World) (g1 : W.cell? ⟨X, 1, none⟩ = some (.int .u64 t)) (g3 : W.cell? ⟨X, 3, none⟩ = some (.int .i64 h)) (g4 : W.cell? ⟨X, 4, none⟩ = some (.int .i64 n)) => c_EvSpot t h n g1 g3 g4 t0 t1 h0 h1 m0 m1)
  rw [← hv] at HSP

  have hrf : 0 ≤ plRef ref ∧ plRef ref < 18446744073709551616 := by unfold plRef; split <;> omega
  have HR := Lib.hid (fun W => c_Ref ref W r0 r1)
  obtain ⟨ra, hra⟩ : ∃ ra, ra = plRef ref := ⟨_, rfl⟩
  rw [← hra] at hrf HR ⊢
  have hmb := hP.bd ra
  obtain ⟨mv, hmv⟩ : ∃ mv, mv = s.M ra := ⟨_, rfl⟩
  rw [← hmv] at hmb ⊢
  have htm : mv.tmod 2 = mv % 2 := Int.tmod_eq_emod_of_nonneg hmb.1
  have hwm : IntKind.u64.wrap (mv % 2) = mv % 2 := by rw [IntKind.wrap_u64]; omega
  have HL := Lib.hid (c_LoadP ra hP hhi hrf.1 hrf.2 n0 n1)
  rw [← hmv] at HL
  have x5 := hx.c 5 _ rfl
  dsimp only at x5
  clear hP hX hx hhi hall hal hra hmv hvo hv l0 l1 t0 t1 h0 h1 m2 r0 r1 k0 k1 w0 w1 o8 hsp
  go_enter Tryz.func29, Tryz.ntmps29
  go_wp2_with fail
  refine wp_scope_once 1 rfl ?_
  intro J hJ
  have HJ := Lib.hid hJ
  clear hJ
  go_wp2_with fail
  refine (c_EvOver x0).mono ?_
  rintro e w' ⟨rfl, rfl⟩
  go_wp2_with fail
  refine (HR.out _).mono ?_
  rintro e w' ⟨rfl, rfl⟩
  go_wp2_with fail
  refine HL.out.mono ?_
  rintro e w3 ⟨rfl, G3, e3, P3⟩
  have M3 := Lib.hid (HM.out.world hk e3 P3)
  have q6 := M3.out.t.c 6 _ rfl
  have f6 := M3.out.t.f 6
  have M4 := Lib.hid (M3.out.set hk (Nat.le_refl _) (by omega) 6 (.int .u64 mv) (by simp [evCs]))
  clear e3 P3 x0 x5 p0
  go_upto_region 18 with fail
  obtain ⟨w4, hw4'⟩ : ∃ w4, w4 = w3.setCell ⟨X, 6, none⟩ (.int .u64 mv) := ⟨_, rfl⟩
  rw [← hw4'] at M4 ⊢
  clear q6 f6 hw4'
  have q6 := M4.out.t.c 6 _ rfl
  by_cases he : mv % 2 = 0
  · have de : (mv % 2 == 0) = true := by simp [he]
    have HE := Lib.hid he
    clear he
    go_wp2_with fail
    go_step3
    refine ⟨rfl, HJ.out _ _ ?_⟩
    clear HJ q6 de htm hwm
    have y1 := M4.out.t.c 1 _ rfl
    have y3 := M4.out.t.c 3 _ rfl
    have y4 := M4.out.t.c 4 _ rfl
    go_wp2_with fail
    refine (HSP.out _ y1 y3 y4).mono ?_
    rintro e w5 ⟨rfl, hb5⟩
    have M5 := Lib.hid (M4.out.below hb5)
    clear y1 y3 y4

    obtain ⟨W5, hW5⟩ : ∃ W5, W5 = w5.alloc (.cells #[.int .i64 v.b, .int .i64 v.q] 43) := ⟨_, rfl⟩
    have bW5 : Below w5.heap.size w5 W5 := by rw [hW5]; exact (Below.refl _ _).alloc (Nat.le_refl _) _
    have N5 := Lib.hid (M5.out.below bW5)
    have u0 : W5.cell? ⟨w5.heap.size, 0, none⟩ = some (.int .i64 v.b) := by rw [hW5]; simp
    have u1 : W5.cell? ⟨w5.heap.size, 0 + 1, none⟩ = some (.int .i64 v.q) := by rw [hW5]; simp
    have ul : w5.heap.size < W5.heap.size := by rw [hW5]; simp
    go_wp2_with fail
    rw [← hW5]
    clear hW5
    refine (c_NewMark1 v HV.out.2 (b := w5.heap.size) (o := 0) (c := 1) (k + 1) (by omega) ⟨Nat.le_refl _, by unfold maxLen; omega⟩ ul u0 u1 N5.out.e.hi).mono ?_
    clear u0 u1 ul
    rintro e w6 ⟨A, rfl, G6, e6, a6⟩
    have M6 := Lib.hid (N5.out.oth hk e6 (fun t h => by omega))
    clear bW5 hb5

    have y1 := M6.out.t.c 1 _ rfl
    have y3 := M6.out.t.c 3 _ rfl
    have y4 := M6.out.t.c 4 _ rfl
    go_wp2_with fail
    refine (HSP.out _ y1 y3 y4).mono ?_
    rintro e w7 ⟨rfl, hb7⟩
    have M7 := Lib.hid (M6.out.below hb7)
    clear y1 y3 y4

    have A7 := Lib.hid (a6.below hb7)
    clear a6 hb7 e6
    go_wp2_with fail
    refine (c_NewOut (k := k + 3) HV.out.2 M7.out.e.hi).mono ?_
    rintro e w8 ⟨U, rfl, G8, e8, u8⟩
    have M8 := Lib.hid (M7.out.oth hk e8 (fun t h => by omega))
    have A8 := Lib.hid (A7.out.ext e8 (by omega) (by omega))
    have U8 := Lib.hid u8
    clear e8 u8

    have y1 := M8.out.t.c 1 _ rfl
    have y3 := M8.out.t.c 3 _ rfl
    have y4 := M8.out.t.c 4 _ rfl
    go_wp2_with fail
    refine (HSP.out _ y1 y3 y4).mono ?_
    rintro e w9 ⟨rfl, hb9⟩
    have M9 := Lib.hid (M8.out.below hb9)
    clear y1 y3 y4

    have A9 := Lib.hid (A8.out.below hb9)
    have U9 := Lib.hid (U8.out.below hb9)

    obtain ⟨W9, hW9⟩ : ∃ W9, W9 = w9.alloc (.cells #[.int .i64 v.b, .int .i64 v.q] 43) := ⟨_, rfl⟩
    have bW9 : Below w9.heap.size w9 W9 := by rw [hW9]; exact (Below.refl _ _).alloc (Nat.le_refl _) _
    have N9 := Lib.hid (M9.out.below bW9)
    have u0 : W9.cell? ⟨w9.heap.size, 0, none⟩ = some (.int .i64 v.b) := by rw [hW9]; simp
    have u1 : W9.cell? ⟨w9.heap.size, 0 + 1, none⟩ = some (.int .i64 v.q) := by rw [hW9]; simp
    have ul : w9.heap.size < W9.heap.size := by rw [hW9]; simp
    go_wp2_with fail
    rw [← hW9]
    clear hW9
    refine (c_NewMark1 v HV.out.2 (b := w9.heap.size) (o := 0) (c := 1) (k + 4) (by omega) ⟨Nat.le_refl _, by unfold maxLen; omega⟩ ul u0 u1 N9.out.e.hi).mono ?_
    clear u0 u1 ul
    rintro e w10 ⟨L, rfl, G10, e10, a10⟩
    have M10 := Lib.hid (N9.out.oth hk e10 (fun t h => by omega))

    have A10 := Lib.hid ((A9.out.below bW9).ext e10 (by omega) (by omega))
    have U10 := Lib.hid ((U9.out.below bW9).ext e10 (by omega))
    have L10 := Lib.hid a10
    clear bW9 hb9 e10 a10
    have q7 := M10.out.t.c 7 _ rfl
    have f7 := M10.out.t.f 7
    have q8 := M10.out.t.c 8 _ rfl
    have f8 := M10.out.t.f 8
    have q9 := M10.out.t.c 9 _ rfl
    have f9 := M10.out.t.f 9
    have q0 := M10.out.t.c 0 _ rfl
    have f0 := M10.out.t.f 0
    have E1 := ext_set (j := 7) (v := .pointer (some ⟨A, 0, none⟩)) M10.out.e.hi M10.out.t hk
    have M11 := M10.out.set hk (Nat.le_refl _) (by omega) 7 (.pointer (some ⟨A, 0, none⟩)) (by simp [evCs])
    have E2 := ext_set (j := 8) (v := .pointer (some ⟨U, 0, none⟩)) M11.e.hi M11.t hk
    have M12 := M11.set hk (Nat.le_refl _) (by omega) 8 (.pointer (some ⟨U, 0, none⟩)) (by simp [evCs])
    have E3 := ext_set (j := 9) (v := .pointer (some ⟨L, 0, none⟩)) M12.e.hi M12.t hk
    have M13 := M12.set hk (Nat.le_refl _) (by omega) 9 (.pointer (some ⟨L, 0, none⟩)) (by simp [evCs])
    have E4 := ext_set (j := 0) (v := .int .i64 7) M13.e.hi M13.t hk
    have M14 := Lib.hid (M13.set hk (Nat.le_refl _) (by omega) 0 (.int .i64 7) (by simp [evCs]))
    have EE := Lib.hid (((E1.trans E2).trans E3).trans E4)
    clear E1 M11 E2 M12 E3 M13 E4
    go_wp2_with fail
    go_ret
    have hA := A10.out.ext EE.out (by omega) (by omega)
    have hU := U10.out.ext EE.out (by omega)
    have hL := L10.out.ext EE.out (by omega) (by omega)
    rw [HV.out.1] at hA hU hL
    refine ⟨by rw [if_pos HE.out]; rfl, _, M14.out.e, M14.out.p, ?_⟩
    rw [if_pos HE.out]
    exact ⟨all, some ⟨A, 0, none⟩, some ⟨U, 0, none⟩, some ⟨L, 0, none⟩, M14.out.t, fun _ => HAL.out, fun _ => ⟨A, rfl, hA⟩, fun _ => ⟨U, rfl, hU⟩, fun _ => ⟨L, rfl, hL⟩⟩

  · have de : (mv % 2 == 0) = false := by simp [he]
    have HE := Lib.hid he
    clear he
    have q0 := M4.out.t.c 0 _ rfl
    have f0 := M4.out.t.f 0
    have M5 := Lib.hid (M4.out.set hk (Nat.le_refl _) (by omega) 0 (.int .i64 6) (by simp [evCs]))

    go_wp2_with fail
    go_ret
    refine ⟨by rw [if_neg HE.out]; rfl, _, M5.out.e, M5.out.p, ?_⟩
    rw [if_neg HE.out]
    exact EvAt.simple all a ou l M5.out.t (fun _ => HAL.out) (fun h => absurd (show (6 : Int) = 7 from h) (by decide)) (fun h => absurd (show (6 : Int) = 8 from h) (by decide)) (fun h => absurd (show (6 : Int) = 9 from h) (by decide))
end
end Go.Proofs.YtlcibfpibklbdaaGreat
