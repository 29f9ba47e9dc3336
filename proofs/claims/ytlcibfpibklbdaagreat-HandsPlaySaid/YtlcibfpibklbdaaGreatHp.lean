/- Layer 23: HandsPlay. -/
import Derived.Test.YtlcibfpibklbdaaGreatSm
import Derived.Test.YtlcibfpibklbdaaGreatHdArg
import Derived.Test.YtlcibfpibklbdaaGreatHm
namespace Go.Proofs.YtlcibfpibklbdaaGreat
set_option linter.unusedSimpArgs false
open Go.RowKit
set_option linter.unusedVariables false

theorem keepB {W W' : World} {n j : Nat} {v : Value} (hl : n < W.heap.size) (h : W.cell? ⟨n, j, none⟩ = some v) (hb : Below W.heap.size W W') : W'.cell? ⟨n, j, none⟩ = some v := (hb.cell (p := ⟨n, j, none⟩) hl).trans h
theorem infoHop : (Tryz.prog.info? 124).map (fun i => (i.zero, i.size, i.bytes)) = some (some (.agg #[.pointer none, .pointer none]), 2, 16) := by kernel_rfl
set_option maxHeartbeats 4000000 in
set_option maxRecDepth 100000 in
theorem w_HandsPlay (v : Value) (F : Fst) (vl : Value) (l : List Hact) (w : World) (g : FstBd F) (c : FstAt w v F) (gl : ∀ q ∈ l, HactOk q) (hA : Arr w vl l.length 5 (rowOf hactc l)) :
    Calls Tryz.prog 9 #[v, vl] w fun e w' => e = .returned (.bool true) ∧ Below w.heap.size w w' := by
  obtain ⟨⟨fb, fg, ft, fq, fy⟩, gr, it, pu, st, ti⟩ := F
  obtain ⟨vi, vp, vs, rfl, a1, a2, a3⟩ := c.ex
  obtain ⟨ai, ci, rfl, hci, hmi⟩ := a1.shape
  obtain ⟨ap, cp, rfl, hcp, hmp⟩ := a2.shape
  obtain ⟨as', cs, rfl, hcs, hms⟩ := a3.shape
  obtain ⟨al, cl, rfl, hcl, hml⟩ := hA.shape
  unfold fstV at c ⊢
  dsimp only at c a1 a2 a3 ⊢
  have HC := Lib.hid c
  have HA := Lib.hid (And.intro a1 (And.intro a2 a3))
  have HG := Lib.hid g
  have HL := Lib.hid hA
  have HGL := Lib.hid gl
  clear c a1 a2 a3 g hA gl
  obtain ⟨i0, hi, hz0, hz1, hz2⟩ := info_parts infoHop
  have HI := Lib.hid (And.intro hi (And.intro hz0 (And.intro hz1 hz2)))
  clear hi hz0 hz1 hz2
  have hml9 : l.length ≤ 9223372036854775807 := by unfold maxLen at hml; omega
  go_enter Tryz.func9, Tryz.ntmps9
  go_wp2_with fail
  obtain ⟨W1, hW1⟩ : ∃ W1, W1 = w.alloc (.cells #[.int .i64 fb, .int .i64 fg, .int .i64 ft, .int .i64 fq, .int .i64 fy, .bool gr, .slice ai it.length ci, .slice ap pu.length cp, .slice as' st.length cs, .int .i64 ti] 100) := ⟨_, rfl⟩
  have B1 : Hid (Below w.heap.size w W1) := Lib.hid (by rw [hW1]; exact (Below.refl _ _).alloc (Nat.le_refl _) _)
  have n1 : w.heap.size < W1.heap.size := by rw [hW1]; simp
  have y0 : W1.cell? ⟨w.heap.size, 0, none⟩ = some (.int .i64 fb) := by rw [hW1]; simp
  have y1 : W1.cell? ⟨w.heap.size, 1, none⟩ = some (.int .i64 fg) := by rw [hW1]; simp
  have y2 : W1.cell? ⟨w.heap.size, 2, none⟩ = some (.int .i64 ft) := by rw [hW1]; simp
  have y3 : W1.cell? ⟨w.heap.size, 3, none⟩ = some (.int .i64 fq) := by rw [hW1]; simp
  have y4 : W1.cell? ⟨w.heap.size, 4, none⟩ = some (.int .i64 fy) := by rw [hW1]; simp
  have y5 : W1.cell? ⟨w.heap.size, 5, none⟩ = some (.bool gr) := by rw [hW1]; simp
  have y6 : W1.cell? ⟨w.heap.size, 6, none⟩ = some (.slice ai it.length ci) := by rw [hW1]; simp
  have y7 : W1.cell? ⟨w.heap.size, 7, none⟩ = some (.slice ap pu.length cp) := by rw [hW1]; simp
  have y8 : W1.cell? ⟨w.heap.size, 8, none⟩ = some (.slice as' st.length cs) := by rw [hW1]; simp
  have y9 : W1.cell? ⟨w.heap.size, 9, none⟩ = some (.int .i64 ti) := by rw [hW1]; simp
  rw [← hW1]
  clear hW1
  refine (c_Great (HC.out.below B1.out)).mono ?_
  rintro e w3 ⟨b, rfl, hb3, hbd⟩
  have B3 := Lib.hid (B1.out.trans (hb3.mono B1.out.size))
  have HBD := Lib.hid hbd
  cases b with
  | true =>
    clear hb3 hbd y0 y1 y2 y3 y4 y5 y6 y7 y8 y9
    go_wp2_with fail
    refine (c_lives23 w3).mono ?_
    rintro e w4 ⟨rfl, hb4⟩
    go_wp2_with fail
    go_ret
    exact ⟨rfl, B3.out.trans (hb4.mono B3.out.size)⟩
  | false =>
    by_cases hl3 : 300 < l.length
    · have d3 : decide ((300 : Int) < (l.length : Int)) = true := by simp; omega
      clear hb3 hbd y0 y1 y2 y3 y4 y5 y6 y7 y8 y9
      go_wp2_with fail
      refine (c_lives23 w3).mono ?_
      rintro e w4 ⟨rfl, hb4⟩
      go_wp2_with fail
      go_ret
      exact ⟨rfl, B3.out.trans (hb4.mono B3.out.size)⟩
    have d3 : decide ((300 : Int) < (l.length : Int)) = false := by simp; omega
    have k := fun j => hb3.cell (p := ⟨w.heap.size, j, none⟩) n1
    have z0 := (k 0).trans y0
    have z1 := (k 1).trans y1
    have z2 := (k 2).trans y2
    have z3 := (k 3).trans y3
    have z4 := (k 4).trans y4
    have z5 := (k 5).trans y5
    have z6 := (k 6).trans y6
    have z7 := (k 7).trans y7
    have z8 := (k 8).trans y8
    have z9 := (k 9).trans y9
    clear hb3 hbd k y0 y1 y2 y3 y4 y5 y6 y7 y8 y9
    have hbb := HBD.out (by first | rfl | trivial)
    have hBg := c_Begin ⟨⟨fb, fg, ft, fq, fy⟩, gr, it, pu, st, ti⟩ (.slice ai it.length ci) (.slice ap pu.length cp) (.slice as' st.length cs) w3 ⟨HA.out.1.below B3.out, HA.out.2.1.below B3.out, HA.out.2.2.below B3.out, hbb.1, hbb.2.1, hbb.2.2.1, hbb.2.2.2, HG.out.pub, HG.out.stb, HG.out.ti0, HG.out.ti1⟩
    have hit40 := hbb.1
    unfold fstV at hBg
    dsimp only at hBg
    have HBg := Lib.hid hBg
    clear hBg hbb
    go_wp2_with fail
    refine HBg.out.mono ?_
    rintro e w4 ⟨B, C, rfl, G, e4, s, m, pr, n0, n1, m1, hit, hnt⟩
    have E4 := env_begin0 B3.out e4
    obtain ⟨f, hf⟩ : ∃ f : Cf, f = cfOf ⟨fb, fg, ft, fq, fy⟩ := ⟨_, rfl⟩
    rw [← hf] at pr
    clear HBg e4 hf z0 z1 z2 z3 z4 z5 z6 z7 z8 z9
    obtain ⟨W5, hW5⟩ : ∃ W5, W5 = w4.alloc (.cells #[.pointer (some ⟨B.p, 0, none⟩), .pointer (some ⟨C.p, 0, none⟩)] 94) := ⟨_, rfl⟩
    have b5 : Below w4.heap.size w4 W5 := by rw [hW5]; exact (Below.refl _ _).alloc (Nat.le_refl _) _
    have y0 : W5.cell? ⟨w4.heap.size, 0, none⟩ = some (.pointer (some ⟨B.p, 0, none⟩)) := by rw [hW5]; simp
    have y1 : W5.cell? ⟨w4.heap.size, 1, none⟩ = some (.pointer (some ⟨C.p, 0, none⟩)) := by rw [hW5]; simp
    have yl : w4.heap.size < W5.heap.size := by rw [hW5]; simp
    have H0 : QI HK 124 w B C f w4.heap.size 0 W5 (.slice none 0 0) G s m [] := ⟨E4.ext (S := fun _ => True) (Ext.of_below E4.hi b5), pr.below E4.hi b5, n0, by omega, by omega, by rw [hit]; exact hit40, by rw [hnt]; exact Nat.le_refl _, (fun n h => by rw [hnt] at h; cases h), Row.nil _ _ _ _ _, Nat.le_refl _, (fun j q h => by cases h), yl, zero_own E4.hi (Nat.le_refl _), y0, y1⟩
    have HH0 := Lib.hid H0
    clear H0 b5 pr E4 hit hnt hit40 n0 n1 m1
    go_wp2_with fail
    rw [← hW5]
    clear hW5
    obtain ⟨N, hN⟩ : ∃ N, N = w4.heap.size := ⟨_, rfl⟩
    rw [← hN] at HH0 y0 y1 yl ⊢
    clear hN y0 y1 yl
    go_loopw [6, 7] (fun vo i wr => ∃ (k : Nat) (G : Om) (s : AW) (m : Nat) (lo : List Hop), k ≤ l.length ∧ i = .int .i64 k ∧ QI HK 124 w B C f N k wr vo G s m lo) (fun _ i _ => l.length - (intOf i).toNat)
    case atStart => exact ⟨0, G, s, m, [], Nat.zero_le _, rfl, HH0.out⟩
    case round =>
      clear HH0
      obtain ⟨k, G, s, m, lo, hk, rfl, hr⟩ := hrel
      have HR := Lib.hid hr
      obtain ⟨ao, cp2, rfl, hcp2, hmp2⟩ := (Arr.of_own hr.row.own).shape
      have hmo : lo.length ≤ 9223372036854775807 := by unfold maxLen at hmp2; omega
      have p0 := hr.p0
      have p1 := hr.p1
      have hlo : lo.length ≤ 300 := by have := hr.len; omega
      have hk300 : k ≤ 300 := by omega
      obtain ⟨L, hL⟩ : ∃ L, L = lo.length := ⟨_, rfl⟩
      rw [← hL] at HR hcp2 hmo ⊢
      have HLL := Lib.hid hL
      clear hr hL
      by_cases hk2 : k < l.length
      · obtain ⟨b', o', c', he, -, -, hlt, hx⟩ := HL.out.open (by omega) (by omega)
        cases he
        obtain ⟨x, hxe⟩ : ∃ x, x = l[k] := ⟨_, rfl⟩
        have hr : ∀ j, j < 5 → (rowOf hactc l)[k * 5 + j]? = (hactc x)[j]? := fun j hj => by rw [hxe]; exact rowOf_get (f := hactc) (fun _ => rfl) l k j hk2 hj
        have hv : ∀ j u, j < 5 → (hactc x)[j]? = some u → wr.cell? ⟨b', o' + k * 5 + j, none⟩ = some u := fun j u hj hu => by
          have := (HR.out.env.bel.cell (p := ⟨b', o' + (k * 5 + j), none⟩) hlt).trans (hx _ _ ((hr j hj).trans hu))
          rwa [Nat.add_assoc]
        have v0 := hv 0 _ (by omega) rfl
        have v1 := hv 1 _ (by omega) rfl
        have v2 := hv 2 _ (by omega) rfl
        have v3 := hv 3 _ (by omega) rfl
        have v4 := hv 4 _ (by omega) rfl
        rw [Nat.add_zero] at v0
        have hok := HGL.out x (by rw [hxe]; exact List.getElem_mem _)
        obtain ⟨kd, wh, rf, sa, sv⟩ := x
        obtain ⟨k0, k1, h0, h1, r0, r1, a0, a1, u0, u1⟩ := hok
        dsimp only at v0 v1 v2 v3 v4 k0 k1 h0 h1 r0 r1 a0 a1 u0 u1
        have hck : kd % 24 < 24 := Int.emod_lt_of_pos _ (by decide)
        have hck0 : 0 ≤ kd % 24 := Int.emod_nonneg _ (by decide)
        clear hxe hx hr hv
        obtain ⟨W2, hW2⟩ : ∃ W2, W2 = wr.alloc (.cells #[.int .u8 kd, .int .u8 wh, .int .u8 rf, .int .u64 sa, .int .u64 sv] 120) := ⟨_, rfl⟩
        have b2 : Below wr.heap.size wr W2 := by rw [hW2]; exact (Below.refl _ _).alloc (Nat.le_refl _) _
        have HR2 := Lib.hid (HR.out.below b2)
        have q0 : W2.cell? ⟨wr.heap.size, 0, none⟩ = some (.int .u8 kd) := by rw [hW2]; simp
        have q1 : W2.cell? ⟨wr.heap.size, 1, none⟩ = some (.int .u8 wh) := by rw [hW2]; simp
        have q2 : W2.cell? ⟨wr.heap.size, 2, none⟩ = some (.int .u8 rf) := by rw [hW2]; simp
        have q3 : W2.cell? ⟨wr.heap.size, 3, none⟩ = some (.int .u64 sa) := by rw [hW2]; simp
        have q4 : W2.cell? ⟨wr.heap.size, 4, none⟩ = some (.int .u64 sv) := by rw [hW2]; simp
        have ql : wr.heap.size < W2.heap.size := by rw [hW2]; simp
        have qo : Hid (G wr.heap.size = 0) := Lib.hid (zero_own HR.out.env.hi (Nat.le_refl _))
        by_cases h2 : kd % 24 = 0
        · have d2 : (kd % 24 == 0) = true := by simp [h2]
          clear h2
          go_upto_region 11 with fail
          rw [← hW2]
          clear hW2
          go_wp2_with fail
          refine (c_NewEvict (11 + 10 * lo.length) HR2.out.env.hi).mono ?_
          rintro e w5 ⟨X, rfl, G5, e5, x5⟩
          have E5 := Lib.hid e5
          have X5 := Lib.hid x5
          have HN := Lib.hid (c_reNew (w := w5) (k := 11 + 10 * lo.length + 6) (by omega) E5.out.hi)
          clear e5 x5
          go_wp2_with fail
          refine HN.out.mono ?_
          rintro e w6 ⟨R, rfl, G6, e6, r6⟩
          have E6 : Hid (Ext (fun t => t = 10 ∨ (opb HK.wd lo.length ≤ t ∧ t < opb HK.wd lo.length + HK.wd)) G W2 G6 w6) := Lib.hid (by
            have hb : opb HK.wd lo.length = 11 + 10 * lo.length := rfl
            have hw : HK.wd = 10 := rfl
            rw [hb, hw]
            exact (E5.out.mono fun t _ h => .inr (by omega)).trans (e6.mono fun t _ h => .inr (by omega)))
          have HR6 := Lib.hid (HR2.out.mk2 E6.out)
          have HQ6 : Hid (HopAt w6 G6 (11 + 10 * lo.length) ⟨X, R, evNew⟩) := Lib.hid ⟨X5.out.ext e6 (fun t h1 h2 => by omega), r6, evNew_ok⟩
          clear e6 r6 E5 X5 HN E6 p0 p1 v0 v1 v2 v3 v4 q0 q1 q2 q3 q4 ql
          go_upto_region 12 with fail
          obtain ⟨W7, hW7⟩ : ∃ W7, W7 = w6.alloc (.cells #[.pointer (some ⟨X, 0, none⟩), .pointer (some ⟨R, 0, none⟩)] 124) := ⟨_, rfl⟩
          have b7 : Below w6.heap.size w6 W7 := by rw [hW7]; exact (Below.refl _ _).alloc (Nat.le_refl _) _
          have o0 : W7.cell? ⟨w6.heap.size, 0, none⟩ = some (.pointer (some ⟨X, 0, none⟩)) := by rw [hW7]; simp
          have o1 : W7.cell? ⟨w6.heap.size, 1, none⟩ = some (.pointer (some ⟨R, 0, none⟩)) := by rw [hW7]; simp
          have ol : w6.heap.size < W7.heap.size := by rw [hW7]; simp
          have HR7 := Lib.hid (HR6.out.below b7)
          have HQ7 := Lib.hid (HQ6.out.below b7)
          rw [← hW7]
          clear hW7 b7 HR6 HQ6
          obtain ⟨n8, hn8⟩ : ∃ n8, n8 = w6.heap.size := ⟨_, rfl⟩
          rw [← hn8] at o0 o1 ol ⊢
          clear hn8
          go_wp2_with fail
          refine (c_same23 HQ7.out).mono ?_
          rintro e w8 ⟨rfl, hb8⟩
          have s0 := (hb8.cell (p := ⟨n8, 0, none⟩) ol).trans o0
          have s1 := (hb8.cell (p := ⟨n8, 1, none⟩) ol).trans o1
          have HR8 := Lib.hid (HR7.out.below hb8)
          have HQ8 := Lib.hid (HQ7.out.below hb8)
          have HQ9 : Hid (HK.A w8 G6 (opb HK.wd lo.length) (⟨X, R, evNew⟩ : Hop)) := Lib.hid (show HopAt w8 G6 (11 + 10 * lo.length) ⟨X, R, evNew⟩ from HQ8.out)
          clear hb8 o0 o1 HR7 HQ7 HQ8
          go_upto_region 14 with fail
          go_wp2_with (at_builtin; refine append_row w8 rfl _ _ 116 rfl 124 i0 (.agg #[.pointer none, .pointer none]) 2 16 Tryz.underlying116 HI.out.1 HI.out.2.1 HI.out.2.2.1 HI.out.2.2.2 rfl (by decide) (by decide) G6 9 (by decide) HR8.out.env.hi (.slice ao L cp2) lo.length (rowOf (opc HK) lo) rfl HR8.out.row (opc HK ⟨X, R, evNew⟩) _ rfl rfl (by simp [Value.oneCell', opc]) (by omega) ?_; intro gg cap Wz Gz ez rz; have HRn := Lib.hid (QI.snoc HR8.out HQ9.out ez rz); have p0 := HRn.out.p0; have p1 := HRn.out.p1; clear ez rz)
          refine (c_PSame HRn.out.pr HRn.out.env.hi (by have := HRn.out.m1; omega)).mono ?_
          rintro e w9 ⟨rfl, hb9⟩
          have HR9 := Lib.hid (HRn.out.below hb9)
          clear hb9 p0 p1 HRn
          go_wp2_with fail
          go_roundw
          case rel => exact ⟨k + 1, _, _, _, _, by omega, by go_num, HR9.out⟩
          case measure => simp [intOf]; omega
        · have d2 : (kd % 24 == 0) = false := by simp [h2]
          by_cases h3 : kd % 24 = 1
          · have d3 : (kd % 24 == 1) = true := by simp [h3]
            clear h2 h3
            go_upto_region 16 with fail
            rw [← hW2]
            clear hW2
            have p0 := HR2.out.p0
            have p1 := HR2.out.p1
            clear v0 v1 v2 v3 v4
            go_wp2_with fail
            refine (c_PStore sa sv HR2.out.pr HR2.out.env.hi (by have := HR2.out.m1; omega) a0 (by omega) u0 (by omega) HR2.out.n0 (by have := HR2.out.n1; omega)).mono ?_
            rintro e w5 ⟨rfl, G5, e5, P5⟩
            have HRn := Lib.hid (HR2.out.sp e5 P5 (by show 0 ≤ s.n + 1; have := HR2.out.n0; omega) (by show s.n + 1 ≤ _; have := HR2.out.n1; omega) (by have := HR2.out.m1; omega) (by have := HR2.out.hit; show s.it.length ≤ _; omega) (by have := HR2.out.hnt; show s.nt.length ≤ _; omega) HR2.out.hnk)
            clear e5 P5 p0 p1 q0 q1 q2 q3 q4 HR2 HR
            have p0 := HRn.out.p0
            have p1 := HRn.out.p1
            go_wp2_with fail
            refine (c_PSame HRn.out.pr HRn.out.env.hi (by have := HRn.out.m1; omega)).mono ?_
            rintro e w9 ⟨rfl, hb9⟩
            have HR9 := Lib.hid (HRn.out.below hb9)
            clear hb9 p0 p1 HRn
            go_wp2_with fail
            go_roundw
            case rel => exact ⟨k + 1, _, _, _, _, by omega, by go_num, HR9.out⟩
            case measure => simp [intOf]; omega
          · have d3 : (kd % 24 == 1) = false := by simp [h3]
            by_cases h4 : kd % 24 = 2
            · have d4 : (kd % 24 == 2) = true := by simp [h4]
              clear h2 h3 h4
              go_upto_region 18 with fail
              rw [← hW2]
              clear hW2
              have hwr : IntKind.u64.wrap rf = rf := by rw [IntKind.wrap_u64]; omega
              obtain ⟨ad, had⟩ : ∃ ad, ad = 4294967296 + rf := ⟨_, rfl⟩
              have hab : 0 ≤ ad ∧ ad < 18446744073709551616 := by omega
              have hws : IntKind.u64.wrap (4294967296 + rf) = ad := by rw [IntKind.wrap_u64]; omega
              clear had
              have p0 := HR2.out.p0
              have p1 := HR2.out.p1
              clear v0 v1 v2 v3 v4
              go_wp2_with fail
              refine (c_PStore ad sv HR2.out.pr HR2.out.env.hi (by have := HR2.out.m1; omega) hab.1 hab.2 u0 (by omega) HR2.out.n0 (by have := HR2.out.n1; omega)).mono ?_
              rintro e w5 ⟨rfl, G5, e5, P5⟩
              have HRn := Lib.hid (HR2.out.sp e5 P5 (by show 0 ≤ s.n + 1; have := HR2.out.n0; omega) (by show s.n + 1 ≤ _; have := HR2.out.n1; omega) (by have := HR2.out.m1; omega) (by have := HR2.out.hit; show s.it.length ≤ _; omega) (by have := HR2.out.hnt; show s.nt.length ≤ _; omega) HR2.out.hnk)
              clear e5 P5 p0 p1 q0 q1 q2 q3 q4 HR2 HR
              have p0 := HRn.out.p0
              have p1 := HRn.out.p1
              go_wp2_with fail
              refine (c_PSame HRn.out.pr HRn.out.env.hi (by have := HRn.out.m1; omega)).mono ?_
              rintro e w9 ⟨rfl, hb9⟩
              have HR9 := Lib.hid (HRn.out.below hb9)
              clear hb9 p0 p1 HRn
              go_wp2_with fail
              go_roundw
              case rel => exact ⟨k + 1, _, _, _, _, by omega, by go_num, HR9.out⟩
              case measure => simp [intOf]; omega
            · have d4 : (kd % 24 == 2) = false := by simp [h4]
              clear h2 h3 h4
              by_cases hl0 : L = 0
              · have t0 : decide ((0 : Int) < (L : Int)) = false := decide_eq_false (by omega)
                have t0' : decide (0 < L) = false := decide_eq_false (by omega)
                clear hl0
                go_upto_region 24 with fail
                rw [← hW2]
                clear hW2 v0 v1 v2 v3 v4 q0 q1 q2 q3 q4 p0 p1
                have HRn := Lib.hid (HR2.out.up (Nat.le_succ k))
                have p0 := HRn.out.p0
                have p1 := HRn.out.p1
                clear HR2 HR
                go_wp2_with fail
                refine (c_PSame HRn.out.pr HRn.out.env.hi (by have := HRn.out.m1; omega)).mono ?_
                rintro e w9 ⟨rfl, hb9⟩
                have HR9 := Lib.hid (HRn.out.below hb9)
                clear hb9 p0 p1 HRn
                go_wp2_with fail
                go_roundw
                case rel => exact ⟨k + 1, _, _, _, _, by omega, by go_num, HR9.out⟩
                case measure => simp [intOf]; omega
              · have t0 : decide ((0 : Int) < (L : Int)) = true := decide_eq_true (by omega)
                have t0' : decide (0 < L) = true := decide_eq_true (by omega)
                have tz : ((L : Int) == 0) = false := by rw [beq_eq_false_iff_ne]; omega
                obtain ⟨i, hwi⟩ : ∃ i : Nat, wh % (L : Int) = i := ⟨(wh % (L : Int)).toNat, by have := Int.emod_nonneg wh (show (L : Int) ≠ 0 by omega); omega⟩
                have hiL : i < L := by have := Int.emod_lt_of_pos wh (show (0 : Int) < L by omega); omega
                have hil : i < lo.length := by rw [← HLL.out]; exact hiL
                obtain ⟨q, hqi⟩ : ∃ q, lo[i]? = some q := ⟨_, List.getElem?_eq_getElem hil⟩
                have hqe := (List.getElem?_eq_some_iff.1 hqi).2
                obtain ⟨gb, go', gc, he, -, -, glt, gx⟩ := (Arr.of_own HR2.out.row.own).open (show 0 < lo.length by omega) (by omega)
                have hao := (Value.slice.inj he).1
                subst hao
                clear he
                have g0 : W2.cell? ⟨gb, go' + i * 2, none⟩ = some (.pointer (some ⟨q.x, 0, none⟩)) := gx _ _ ((rowOf_get (opc_len HK) lo i 0 hil (by omega)).trans (by rw [hqe]; rfl))
                have g1 : W2.cell? ⟨gb, go' + i * 2 + 1, none⟩ = some (.pointer (some ⟨q.R, 0, none⟩)) := gx _ _ ((rowOf_get (opc_len HK) lo i 1 hil (by omega)).trans (by rw [hqe]; rfl))
                have HQI := Lib.hid hqi
                obtain ⟨x, hx⟩ : ∃ x, x = q.x := ⟨_, rfl⟩
                obtain ⟨R, hR⟩ : ∃ R, R = q.R := ⟨_, rfl⟩
                rw [← hx] at g0
                rw [← hR] at g1
                have HX := Lib.hid (And.intro hx hR)
                clear hl0 gx hqi hqe hx hR hil
                go_upto_region 20 with fail
                rw [← hW2]
                clear hW2 v0 v1 v2 v3 v4 p0 p1
                go_upto_region 21 with fail
                obtain ⟨W3, hW3⟩ : ∃ W3, W3 = W2.alloc (.cells #[.pointer (some ⟨x, 0, none⟩), .pointer (some ⟨R, 0, none⟩)] 124) := ⟨_, rfl⟩
                have b3 : Below W2.heap.size W2 W3 := by rw [hW3]; exact (Below.refl _ _).alloc (Nat.le_refl _) _
                have s0 : W3.cell? ⟨W2.heap.size, 0, none⟩ = some (.pointer (some ⟨x, 0, none⟩)) := by rw [hW3]; simp
                have s1 : W3.cell? ⟨W2.heap.size, 1, none⟩ = some (.pointer (some ⟨R, 0, none⟩)) := by rw [hW3]; simp
                have sl : W2.heap.size < W3.heap.size := by rw [hW3]; simp
                have so : Hid (G W2.heap.size = 0) := Lib.hid (zero_own HR2.out.env.hi (Nat.le_refl _))
                have HR3 := Lib.hid (HR2.out.below b3)
                have HQ3 : HopAt W3 G (11 + 10 * i) q := HR3.out.ops i q HQI.out
                rw [← hW3]
                clear hW3 q0 q1 q2 q3 q4 b3 g0 g1 HR2 HR
                obtain ⟨Z, hZ⟩ : ∃ Z, Z = evStep (s, q.z) := ⟨_, rfl⟩
                have hr3 : ReAt W3 G (17 + 10 * i) q.R q.z := by have := HQ3.r; rwa [show 11 + 10 * i + 6 = 17 + 10 * i by omega] at this
                have HT := c_reStep HR3.out.pr.r hr3 HQ3.ok (by omega) (by have := HR3.out.m1; omega) HR3.out.env.hi HR3.out.n0 (by have := HR3.out.n1; omega)
                rw [← hZ, ← HX.out.2] at HT
                unfold REPost at HT
                have HT := Lib.hid HT
                have HQ3 := Lib.hid HQ3
                have p0 := HR3.out.p0
                have p1 := HR3.out.p1
                have HZ := Lib.hid hZ
                clear hZ hr3
                go_wp2_with fail
                refine HT.out.mono ?_
                rintro e w5 ⟨rfl, G5, e5, P5, x5⟩
                have n0K : ¬ SD (17 + 10 * i) (17 + 10 * i + 3) 0 := fun h => by unfold SD SR at h; omega
                have hR5 := x5
                obtain ⟨p5, a5, u5, hob, -⟩ := hR5.ex
                have hlc := hob.c 0 _ rfl
                have hll := hob.lt
                obtain ⟨ln', hln⟩ : ∃ ln' : Int, ln' = Z.2.ln := ⟨_, rfl⟩
                rw [← hln] at hlc
                obtain ⟨b, hb⟩ : ∃ b, b = evOver Z.2 := ⟨_, rfl⟩
                have hov : (ln' == 0) = b := by rw [hb, hln]; rfl
                have P5' := Lib.hid P5
                have X5' := Lib.hid x5
                have E5 := Lib.hid e5
                have y0 := (e5.nob n0K HR3.out.pN HR3.out.oN 0).trans p0
                have y1 := (e5.nob n0K HR3.out.pN HR3.out.oN 1).trans p1
                have z0 := (e5.nob n0K sl so.out 0).trans s0
                have z1 := (e5.nob n0K sl so.out 1).trans s1
                have hO5 := Lib.hid ((e5.lo _ sl).trans so.out)
                have hOR := Lib.hid hob.o
                have hN5 : N < w5.heap.size := Nat.lt_of_lt_of_le HR3.out.pN e5.size
                have hS5 : W2.heap.size < w5.heap.size := Nat.lt_of_lt_of_le sl e5.size
                have ON5 := Lib.hid ((e5.lo _ HR3.out.pN).trans HR3.out.oN)
                have D5 : Ext (SX (11 + 10 * i) (11 + 10 * i + 5)) G5 w5 G5 w5.drew := Ext.of_below e5.hi (drew_below _)
                have HPT := c_EvStep (k := 11 + 10 * i) ((HR3.out.pr.p.ext e5 (fun h => by unfold SD SR at h; omega) (fun h => by unfold SD SR at h; omega) (fun h => by unfold SD SR at h; omega) (fun h => by unfold SD SR at h; omega)).below e5.hi (drew_below w5)) ((HQ3.out.e.ext e5 (fun t h1 h2 h => by unfold SD SR at h; omega)).below (drew_below w5)) HQ3.out.ok (by omega) D5.hi HR3.out.n0 (by have := HR3.out.n1; omega)
                rw [← HZ.out, ← HX.out.1] at HPT
                unfold EPost at HPT
                rw [← hb] at HPT
                have HPT := Lib.hid HPT
                have D5 := Lib.hid D5
                clear hb n0K hob hR5 P5 e5 x5 s0 s1 p0 p1 HT hln
                go_upto_region 22 with fail
                go_region_held3 (fun w' => w'.cell? ⟨N, 0, none⟩ = some (.pointer (some ⟨B.p, 0, none⟩)) ∧ w'.cell? ⟨N, 1, none⟩ = some (.pointer (some ⟨C.p, 0, none⟩)) ∧ w'.cell? ⟨W2.heap.size, 0, none⟩ = some (.pointer (some ⟨x, 0, none⟩)) ∧ w'.cell? ⟨W2.heap.size, 1, none⟩ = some (.pointer (some ⟨R, 0, none⟩)) ∧ w'.cell? ⟨R, 0, none⟩ = some (.int .i64 ln'))
                  (first | assumption | exact ⟨keepB hN5 y0 (drew_below _), keepB hN5 y1 (drew_below _), keepB hS5 z0 (drew_below _), keepB hS5 z1 (drew_below _), keepB hll hlc (drew_below _)⟩ | exact ⟨a0', a1', a2', a3', a4'⟩ | exact ⟨c0', c1', c2', c3', c4'⟩ | go_keep)
                  ((first
                    | (go_at_call 29
                       refine HPT.out.mono ?_
                       rintro e w6 ⟨rfl, G6, e6, P6, T6⟩
                       have hsx0 : ¬ SX (11 + 10 * i) (11 + 10 * i + 5) 0 := fun h => by unfold SX at h; omega
                       have e56 := D5.out.trans e6
                       have a0' := (e56.nob hsx0 hN5 ON5.out 0).trans y0
                       have a1' := (e56.nob hsx0 hN5 ON5.out 1).trans y1
                       have a2' := (e56.nob hsx0 hS5 hO5.out 0).trans z0
                       have a3' := (e56.nob hsx0 hS5 hO5.out 1).trans z1
                       have a4' := (e56.cell (p := ⟨R, 0, none⟩) hll (by show ¬ SX _ _ (G5 R); rw [hOR.out]; exact SX.not (by omega) (by omega))).trans hlc
                       have hS6 : W2.heap.size < w6.heap.size := Nat.lt_of_lt_of_le hS5 e56.size
                       have hR6 : R < w6.heap.size := Nat.lt_of_lt_of_le hll e56.size
                       have P5'' := P5'.out
                       have X5'' := X5'.out
                       rw [HX.out.2] at X5''
                       rw [HZ.out] at P5'' X5'' P6 T6
                       rw [HX.out.1] at T6
                       obtain ⟨q', hq', ex, eR, eT, hri⟩ := HR3.out.evict HQI.out E5.out P5'' X5'' e56 P6 T6
                       have HSM := c_same23 hq'
                       rw [ex, eR, ← HX.out.1, ← HX.out.2] at HSM
                       have HSM := Lib.hid HSM
                       have HR7 := Lib.hid hri
                       have hN6 := hri.pN
                       clear hq' ex eR eT hri P6 T6 P5'' X5'' e6 e56 hsx0)
                    | (go_at_call 59
                       refine HSM.out.mono ?_
                       rintro e w7 ⟨rfl, hb7⟩
                       have c0' := keepB hN6 a0' hb7
                       have c1' := keepB hN6 a1' hb7
                       have c2' := keepB hS6 a2' hb7
                       have c3' := keepB hS6 a3' hb7
                       have c4' := keepB hR6 a4' hb7
                       have HRn := Lib.hid (HR7.out.below hb7)
                       clear hb7)))
                all_goals
                  clear a0' a1' a2' a3' a4' c0' c1' c2' c3' c4' y0 y1 z0 z1
                  have p0 := HRn.out.p0
                  have p1 := HRn.out.p1
                  go_wp2_with fail
                  refine (c_PSame HRn.out.pr HRn.out.env.hi (by have := HRn.out.m1; omega)).mono ?_
                  rintro e w9 ⟨rfl, hb9⟩
                  have HR9 := Lib.hid (HRn.out.below hb9)
                  clear hb9 p0 p1 HRn
                  go_wp2_with fail
                  go_roundw
                  case rel => exact ⟨k + 1, _, _, _, _, by omega, by go_num, HR9.out⟩
                  case measure => simp [intOf]; omega
      · obtain rfl : k = l.length := by omega
        have HB := Lib.hid HR.out.env.bel
        go_wp2_with fail
        refine (c_PSameAllN HR.out.pr HR.out.env.hi (by have := HR.out.m1; omega) (by have := HR.out.hnt; omega) HR.out.hnk (by have := HR.out.hit; omega)).mono ?_
        rintro e w5 ⟨rfl, hb5⟩
        have HB5 := Lib.hid (HB.out.trans (hb5.mono HB.out.size))
        clear hb5 p0 p1
        go_wp2_with fail
        refine (c_lives23 w5).mono ?_
        rintro e w6 ⟨rfl, hb6⟩
        have HB6 := Lib.hid (HB5.out.trans (hb6.mono HB5.out.size))
        clear hb6
        go_wp2_with fail
        go_ret
        exact ⟨rfl, HB6.out⟩
end Go.Proofs.YtlcibfpibklbdaaGreat
