/- Layer 23: HandsTurns. -/
import Derived.Test.YtlcibfpibklbdaaGreatHwA
import Derived.Test.YtlcibfpibklbdaaGreatHm
namespace Go.Proofs.YtlcibfpibklbdaaGreat
set_option linter.unusedSimpArgs false
open Go.RowKit Go.Shelf
set_option linter.unusedVariables false
set_option maxHeartbeats 8000000 in
set_option maxRecDepth 100000 in
theorem w_HandsTurns (v : Value) (F : Ful) (hand : Int) (w : World) (g : FulBd F) (c : FulAt w v F) (h0 : 0 ≤ hand) (h1 : hand ≤ 18446744073709551615) :
    Calls Tryz.prog 3 #[v, .int .u64 hand] w fun e w' => e = .returned (.bool true) ∧ Below w.heap.size w w' := by
  have HG : Hid (∀ W, Below w.heap.size w W → Calls Tryz.prog 13 #[v] W (FulGreat W F)) := Lib.hid fun W hb => c_Great17 (c.below hb) g
  have HM : Hid (∀ W, Below w.heap.size w W → F.ks.length ≤ 40 → F.ly.length ≤ 80 → Calls Tryz.prog 15 #[v, .slice none 0 0, .int .u64 hand] W (MarkPost W F [] hand)) := Lib.hid fun W hb hk hl => c_marked (c.below hb) g hk hl (Arr.nil _ _) (by simp) (by decide) h0 (by omega)
  obtain ⟨vk, vl, vs, rfl, -, -, -⟩ := c.ex
  obtain ⟨b, hb⟩ : ∃ b, b = fulB F := ⟨_, rfl⟩
  have hbi : 1 ≤ b ∧ b ≤ 3 := by rw [hb]; unfold fulB; have := g.b0; omega
  unfold MarkPost at HM
  unfold FulGreat at HG
  rw [← hb] at HM
  unfold fulV at HG HM ⊢
  clear c g hb
  go_enter Tryz.func3, Tryz.ntmps3
  have hbox := fulBox (w := w) (F := F) (vk := vk) (vl := vl) (vs := vs) 26
  unfold fulC at hbox
  have hb0 := (Below.refl w.heap.size w).alloc (Nat.le_refl _) (.cells #[.int .u8 F.bi, vk, vl, .string F.ky, .int .u8 F.mo, vs] 26)
  have hl0 : w.heap.size < (w.alloc (.cells #[.int .u8 F.bi, vk, vl, .string F.ky, .int .u8 F.mo, vs] 26)).heap.size := by simp
  have y0 := hbox 0 _ rfl
  have y1 := hbox 1 _ rfl
  have y2 := hbox 2 _ rfl
  have y3 := hbox 3 _ rfl
  have y4 := hbox 4 _ rfl
  have y5 := hbox 5 _ rfl
  go_wp2_with fail
  obtain ⟨W0, hW0⟩ : ∃ W, W = w.alloc (.cells #[.int .u8 F.bi, vk, vl, .string F.ky, .int .u8 F.mo, vs] 26) := ⟨_, rfl⟩
  rw [← hW0] at hbox hb0 hl0 ⊢
  have HB0 := Lib.hid hb0
  have HL0 := Lib.hid hl0
  have HBX := Lib.hid hbox
  clear hW0 y0 y1 y2 y3 y4 y5 hbox hb0 hl0
  refine (HG.out W0 HB0.out).mono ?_
  rintro e w1 ⟨gr, rfl, hb1, hg⟩
  have B1 : Hid (Below w.heap.size w w1) := Lib.hid (HB0.out.trans (hb1.mono HB0.out.size))
  cases gr with
  | true =>
    clear hg hb1
    go_wp2_with fail
    refine (c_lives23 w1).mono ?_
    rintro e w2 ⟨rfl, hb2⟩
    go_wp2_with fail
    go_ret
    exact ⟨rfl, B1.out.trans (hb2.mono B1.out.size)⟩
  | false =>
    obtain ⟨hks, hly, -⟩ := hg rfl
    have hbx : ∀ j u, [Value.int .u8 F.bi, vk, vl, .string F.ky, .int .u8 F.mo, vs][j]? = some u → w1.cell? ⟨w.heap.size, j, none⟩ = some u := fun j u hu => (hb1.cell (p := ⟨w.heap.size, j, none⟩) HL0.out).trans (HBX.out j u hu)
    have y0 := hbx 0 _ rfl
    have y1 := hbx 1 _ rfl
    have y2 := hbx 2 _ rfl
    have y3 := hbx 3 _ rfl
    have y4 := hbx 4 _ rfl
    have y5 := hbx 5 _ rfl
    clear hg hb1 hbx HBX HL0 HB0 HG
    go_wp2_with fail
    refine (HM.out w1 B1.out hks hly).mono ?_
    rintro e w2 ⟨B, O2, s, rfl, hL, hS⟩
    clear y0 y1 y2 y3 y4 y5 HM
    have L2 := Lib.hid (hL.from B1.out)
    have I2 : Hid (HtI b (hand % plSpots b) s 0 0) := Lib.hid (hS.ht hks)
    have SN : Hid (0 ≤ s.n ∧ s.n ≤ 1100) := Lib.hid ⟨hS.n0, hS.n1⟩
    have hwd := hS.wd
    clear hL hS B1
    have p0 := L2.out.p.wo.c0
    have HPK := Lib.hid (L2.out.peek 2 (by decide) (by decide) w2 (Below.refl _ _))
    rw [hwd] at HPK
    clear hwd
    go_wp2_with fail
    refine HPK.out.mono ?_
    rintro e w' ⟨rfl, rfl⟩
    go_wp2_with fail
    refine (c_Spots b _ (by omega) (by omega)).mono ?_
    rintro e w' ⟨rfl, rfl⟩
    have hsp := plSpots_3 hbi.1 hbi.2
    obtain ⟨A, hA⟩ : ∃ A : Nat, (A : Int) = plSpots b := ⟨(plSpots b).toNat, by omega⟩
    have HA := Lib.hid hA
    rw [← hA] at I2 ⊢ hsp
    clear hA HPK
    have d1 : decide ((A : Int) < 1) = false := decide_eq_false (by omega)
    obtain ⟨fr, hfr⟩ : ∃ fr, fr = hand % (A : Int) := ⟨_, rfl⟩
    have hfb : 0 ≤ fr ∧ fr < 32 := by rw [hfr]; have := Int.emod_nonneg hand (show (A : Int) ≠ 0 by omega); have := Int.emod_lt_of_pos hand (show 0 < (A : Int) by omega); omega
    rw [← hfr] at I2
    obtain ⟨mo, hmo⟩ : ∃ mo : Nat, (mo : Int) = 7 * (A : Int) + 20 := ⟨7 * A + 20, by omega⟩
    have MO := Lib.hid hmo
    have mo2 : mo ≤ 300 := by omega
    clear hmo
    go_upto_region 12 with fail
    rw [← hfr]
    clear hfr
    go_loopw [9] (fun nv wr => ∃ (n m : Nat) (G : Om) (s : AW), nv = .int .i64 n ∧ n ≤ A ∧ m ≤ n ∧ LW w wr G B ⟨b, 8, 3, 1, 16⟩ s ∧ HtI b fr s n m ∧ 0 ≤ s.n ∧ s.n ≤ 1100 + 300 * n) (fun nv _ => A - (intOf nv).toNat)
    case atStart => exact ⟨0, 0, O2, s, rfl, by omega, by omega, L2.out, I2.out, SN.out.1, by have := SN.out.2; omega⟩
    case round =>
      clear L2 I2 SN p0
      obtain ⟨n, m, G3, s3, rfl, hn, hm, hL, hI, hn0, hn1⟩ := hrel
      have L3 := Lib.hid hL
      have I3 := Lib.hid hI
      clear hL hI
      by_cases hn2 : n < A
      · have d64 : decide ((n : Int) < 64) = true := decide_eq_true (by omega)
        obtain ⟨p, hp⟩ : ∃ p, p = plAt b (fr + n) := ⟨_, rfl⟩
        have HPE := Lib.hid hp
        have hpo : p.ok := by rw [hp]; exact plAt_ok _ _
        have HAT : Hid (∀ W, Calls Tryz.prog 18 #[.int .u64 b, .int .i64 (fr + (n : Int))] W fun e w' => e = .returned (.agg #[.int .i64 p.b, .int .i64 p.q, .int .i64 p.s]) ∧ Below W.heap.size W w') := Lib.hid fun W => by rw [hp]; exact c_At b (fr + n) W (by omega) (by omega) (by omega) (by omega)
        have hit := I3.out.it (fr + n)
        rw [← hp] at hit
        have HPO := Lib.hid hpo
        clear hp hpo
        go_wp2_with fail
        refine (HAT.out _).mono ?_
        rintro e w4 ⟨rfl, hb4⟩
        have L4 := L3.out.below hb4
        obtain ⟨-, T5⟩ := alloc_nbH (S := SW) L4.hi #[.int .i64 p.b, .int .i64 p.q, .int .i64 p.s] 45 w4.heap.size rfl
        have L5 := L4.below ((Below.refl _ _).alloc (Nat.le_refl _) (.cells #[.int .i64 p.b, .int .i64 p.q, .int .i64 p.s] 45))
        have T5 := Lib.hid T5
        have L5 := Lib.hid L5
        clear hb4 L4
        have i0 := T5.out.c 0 _ rfl
        have i1 := T5.out.c 1 _ rfl
        have i2 := T5.out.c 2 _ rfl
        go_wp2_with fail
        obtain ⟨W5, hW5⟩ : ∃ W, W = w4.alloc (.cells #[.int .i64 p.b, .int .i64 p.q, .int .i64 p.s] 45) := ⟨_, rfl⟩
        rw [← hW5] at L5 T5 ⊢
        clear hW5 i0 i1 i2
        obtain ⟨n5, hn5⟩ : ∃ n5, n5 = w4.heap.size := ⟨_, rfl⟩
        rw [← hn5] at T5 ⊢
        clear hn5
        have HS := c_Slot p L5.out.p HPO.out L5.out.hi
        obtain ⟨r, hr⟩ : ∃ r, r = s3.M p.item := ⟨_, rfl⟩
        rw [← hr] at hit HS
        have HR := Lib.hid hr
        refine HS.mono ?_
        clear HS hr
        rintro e w6 ⟨rfl, hb6⟩
        have L6 := Lib.hid (L5.out.below hb6)
        have T6 := Lib.hid (T5.out.below hb6)
        clear hb6 L5 T5
        by_cases hz : r = 0
        · have dz : (r == 0) = true := by simp [hz]
          go_wp2_with fail
          go_roundw
          case rel => exact ⟨n + 1, m, G3, s3, by go_num, by omega, by omega, L6.out, I3.out.zero (by rw [← HPE.out, ← HR.out]; exact hz), hn0, by omega⟩
          case measure => simp [intOf]; omega
        · have dz : (r == 0) = false := by simp [hz]
          go_wp2_with fail
          refine (c_NewEvict 10 L6.out.hi).mono ?_
          rintro e w7 ⟨X, rfl, G7, e7, x7⟩
          have L7 := L6.out.ext e7 (by decide) (by decide) (by decide) (by decide)
          have T7 := Lib.hid (T6.out.ext e7 (by decide))
          obtain ⟨c, y, z, hrun, hgot, hy⟩ := I3.out.some (by rw [← HA.out]; omega) (by rw [← HPE.out, ← HR.out]; exact hz) (by omega) mo (by rw [MO.out, HA.out]; omega)
          have hrn := runN_n (over := evOver) evStep_n mo (s3, evNew)
          have hrl := runN_le (over := evOver) (step := evStep) mo (s3, evNew)
          have HRn := c_EvRun (k := 10) X mo L7.p x7 (by decide) L7.hi hn0 (by omega)
          rw [hrun] at hrn hrl HRn
          dsimp only at hrn hrl HRn
          rw [MO.out] at HRn
          have HRn := Lib.hid HRn
          have L7 := Lib.hid L7
          rw [← HPE.out, ← HR.out] at hgot
          have HGT := Lib.hid hgot
          have I7 := Lib.hid hy
          clear e7 x7 hrun hgot hy
          go_wp2_with fail
          refine HRn.out.mono ?_
          rintro e w8 ⟨rfl, G8, e8, P8, x8, k8⟩
          have L8 := L7.out.to e8 P8
          have T8 := Lib.hid (T7.out.ext e8 (sx0 (by decide)))
          have HG := c_EvGot x8 k8
          rw [HGT.out] at HG
          unfold spV at HG
          have HG := Lib.hid HG
          have L8 := Lib.hid L8
          clear e8 P8 x8 k8 HRn HGT
          go_wp2_with fail
          refine HG.out.mono ?_
          rintro e w9 ⟨rfl, hb9⟩
          have L9 := L8.out.below hb9
          have T9 := T8.out.below hb9
          obtain ⟨-, V10⟩ := alloc_nbH (S := SW) L9.hi #[.int .i64 p.b, .int .i64 p.q, .int .i64 p.s] 45 w9.heap.size rfl
          have hba := (Below.refl w9.heap.size w9).alloc (Nat.le_refl _) (.cells #[.int .i64 p.b, .int .i64 p.q, .int .i64 p.s] 45)
          have L10 := Lib.hid (L9.below hba)
          have T10 := T9.below hba
          have v0 := V10.c 0 _ rfl
          have v1 := V10.c 1 _ rfl
          have v2 := V10.c 2 _ rfl
          have j0 := T10.c 0 _ rfl
          have j1 := T10.c 1 _ rfl
          have j2 := T10.c 2 _ rfl
          have dr : decide (r < 1) = false := decide_eq_false (by omega)
          clear hb9 L9 T9 V10 hba T10 HG
          go_wp2_with fail
          go_roundw
          case rel => exact ⟨n + 1, m + 1, _, y, by go_num, by omega, by omega, L10.out, I7.out, by omega, by omega⟩
          case measure => simp [intOf]; omega
      · have hne : n = A := by omega
        subst hne
        clear hn hn2
        go_wp2_with fail
        refine (c_NewEvict 10 L3.out.hi).mono ?_
        rintro e w7 ⟨X, rfl, G7, e7, x7⟩
        have L7 := L3.out.ext e7 (by decide) (by decide) (by decide) (by decide)
        obtain ⟨c, y, z, hrun, hz0, hz1, hy6, hyn⟩ := I3.out.last HA.out (by omega) mo (by rw [MO.out]; exact Int.le_refl _)
        have HRn := c_EvRun (k := 10) X mo L7.p x7 (by decide) L7.hi hn0 (by omega)
        rw [hrun] at HRn
        dsimp only at HRn
        rw [MO.out] at HRn
        have HRn := Lib.hid HRn
        have L7 := Lib.hid L7
        have hgot : evGot z = (0, ⟨0, 0, 0⟩) := by unfold evGot; rw [if_neg (fun q => q.2 hz1)]
        have HGT := Lib.hid hgot
        have HY := Lib.hid (show y.M 6 = _ ∧ y.nt.length = _ from ⟨hy6, hyn⟩)
        have HZ0 := Lib.hid hz0
        clear e7 x7 hrun hgot hy6 hyn hz0 hz1 I3 L3
        go_wp2_with fail
        refine HRn.out.mono ?_
        rintro e w8 ⟨rfl, G8, e8, P8, x8, k8⟩
        have L8 := L7.out.to e8 P8
        have HG := c_EvGot x8 k8
        rw [HGT.out] at HG
        unfold spV at HG
        have HG := Lib.hid HG
        have L8 := Lib.hid L8
        have hx0 := x8.cell0
        rw [HZ0.out] at hx0
        have HX0 := Lib.hid hx0
        clear e8 P8 x8 k8 HRn HGT hx0 L7
        go_wp2_with fail
        refine HG.out.mono ?_
        rintro e w9 ⟨rfl, hb9⟩
        have hba := (Below.refl w9.heap.size w9).alloc (Nat.le_refl _) (.cells #[.int .i64 0, .int .i64 0, .int .i64 0] 45)
        have hx9 := (hb9.cell (p := ⟨X, 0, none⟩) (blk_lt HX0.out)).trans HX0.out
        have hx10 := (hba.cell (p := ⟨X, 0, none⟩) (blk_lt hx9)).trans hx9
        have L10 := Lib.hid ((L8.out.below hb9).below hba)
        have HX := Lib.hid hx10
        clear hb9 hba hx9 hx10 HG HX0 L8
        go_upto_region 25 with fail
        obtain ⟨W, hW⟩ : ∃ W, W = w9.alloc (.cells #[.int .i64 0, .int .i64 0, .int .i64 0] 45) := ⟨_, rfl⟩
        rw [← hW] at L10 HX ⊢
        clear hW
        obtain ⟨an, cn, hnt⟩ := L10.out.notes
        obtain ⟨m6, hm6⟩ : ∃ m6, m6 = y.M 6 := ⟨_, rfl⟩
        have HPK : Hid (∀ e : Later W, Calls Tryz.prog 16 #[.pointer (some ⟨B.c, 0, none⟩), .int .u64 6] (via W e) fun e_1 w' => e_1 = .returned (.int .u64 m6) ∧ via W e = w') := Lib.hid fun e => by rw [hm6]; exact L10.out.peek 6 (by decide) (by decide) _ (via_below W e)
        have HOV : Hid (∀ e : Later W, Calls Tryz.prog 23 #[.pointer (some ⟨X, 0, none⟩)] (via W e) fun e_1 w' => e_1 = .returned (.bool ((0 : Int) == 0)) ∧ via W e = w') := Lib.hid fun e => c_EvOver (((via_below W e).cell (p := ⟨X, 0, none⟩) (blk_lt HX.out)).trans HX.out)
        have HCN : Hid (∀ e : Later W, Calls Tryz.prog 24 #[.pointer (some ⟨B.np, 0, none⟩)] (via W e) fun e_1 w' => e_1 = .returned (.int .i64 ((2 * m + 1 : Nat) : Int)) ∧ via W e = w') := Lib.hid fun e => by
          have := (hnt _ (via_below W e)).2
          rw [HY.out.2] at this
          exact c_NCountL _ _ _ _ _ this
        have p0 := L10.out.c0 W (Below.refl _ _)
        have p2 := (hnt W (Below.refl _ _)).1
        have hlp := L10.out.p.wo.lt
        have hzz : (IntKind.u64.wrap (m6 + (2 * (m : Int) + 1) / 2) == 0) = true := by
          have e : IntKind.u64.wrap (m6 + (2 * (m : Int) + 1) / 2) = (m6 + (2 * (m : Int) + 1) / 2) % 18446744073709551616 := by simp [IntKind.wrap, IntKind.bits, IntKind.signed]
          rw [e, hm6, HY.out.1]
          simp
          omega
        have BB := Lib.hid L10.out.bel
        clear hm6 hnt L10 HX HY
        refine wp_region_via (by kernel_rfl) (by kernel_rfl) ?_
        repeat (go_big_quiet_step ((first
          | (go_at_call 23; exact viaS (HOV.out _))
          | (go_at_call 16; exact viaS (HPK.out _))
          | (go_at_call 24; exact viaS (HCN.out _))
          | (go_at_call 14; exact viaB (c_lives23 _)))))
        refine wpQuiet_nil ?_
        rintro _ ⟨e, rfl⟩
        go_wp2_with fail
        go_ret
        exact ⟨rfl, BB.out.trans ((via_below W e).mono BB.out.size)⟩
end Go.Proofs.YtlcibfpibklbdaaGreat
