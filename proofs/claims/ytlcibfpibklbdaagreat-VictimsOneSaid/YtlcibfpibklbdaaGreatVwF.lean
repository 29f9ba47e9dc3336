/- Layer 24: VictimsFree. -/
import Derived.Test.YtlcibfpibklbdaaGreatOwn
import Derived.Test.YtlcibfpibklbdaaGreatOuR
import Derived.Test.YtlcibfpibklbdaaGreatLw
namespace Go.Proofs.YtlcibfpibklbdaaGreat
set_option linter.unusedSimpArgs false
open Go.RowKit Go.Shelf
set_option linter.unusedVariables false
/-- Behind i slots whose items were marked. -/
structure VfI (b a o : Int) (s0 : AW) (i : Nat) (s : AW) : Prop where
  lo : ∀ x, x ≤ 4294967296 → s.M x = s0.M x
  ms : ∀ j, j < i → 1 ≤ vcI b a o s0.M j ∧ s.M (plRef (vcI b a o s0.M j)) = 1
  nt : s.nt = s0.nt
  n0 : 0 ≤ s.n
  n1 : s.n ≤ 1000 + i
theorem VfI.more {b a o : Int} {s0 s : AW} {i : Nat} (h : VfI b a o s0 i s) (hz : 1 ≤ vcI b a o s0.M i) : VfI b a o s0 (i + 1) (awStore (plRef (vcI b a o s0.M i)) 1 s) := by
  have hr := plRef_bd hz
  refine ⟨fun x hx => ?_, fun j hj => ?_, h.nt, by show 0 ≤ s.n + 1; have := h.n0; omega, by show s.n + 1 ≤ _; have := h.n1; omega⟩
  · show upd s.M _ _ x = _; rw [upd_other _ (by omega), h.lo x hx]
  · by_cases c : j = i
    · subst c; exact ⟨hz, upd_same _ _ _⟩
    · have := h.ms j (by omega)
      refine ⟨this.1, ?_⟩
      show upd s.M _ _ _ = _
      by_cases d : plRef (vcI b a o s0.M j) = plRef (vcI b a o s0.M i)
      · rw [d, upd_same]
      · rw [upd_other _ d]; exact this.2
section
variable {b a o h : Int} {ks : List ByteArray} {s0 : AW}
structure VcB (b a o h : Int) : Prop where
  b0 : 1 ≤ b
  b1 : b ≤ 3
  ha : a = fnvBucket h b
  ho : o = fnvOther a (fnvTag h) b
theorem VcB.ok (H : VcB b a o h) (h0 : 0 ≤ h) (h1 : h < 18446744073709551616) (i : Nat) (hi : i < 8) : (vcP b a o i).ok := by
  have hb1 := H.b1
  have hB := fnvBucket_bd (h := h) H.b0 (by omega : b ≤ 12)
  have hT := fnvTag_bd h h0 h1
  rw [← H.ha] at hB
  have hO := fnvOther_bd (k := a) (t := fnvTag h) (b := b) ⟨hB.1, hB.2, hT.1, hT.2⟩
  rw [← H.ho] at hO
  exact vcP_ok H.b0 (by omega) hB.1 hB.2 hO.1 hO.2 i hi
theorem vf_item (F : FulS b ks s0) (hks : ks.length ≤ 40) {p : Spt} (hp : p.ok) (hb : p.b = b) : 0 ≤ s0.M p.item ∧ s0.M p.item ≤ 40 := by
  rcases F.fil.slot p hp hb with ⟨-, h2⟩ | ⟨r, k, h1, h2, -, -⟩
  · omega
  · have := (List.getElem?_eq_some_iff.1 h1).1; omega
theorem vf_plain (F : FulS b ks s0) (hks : ks.length ≤ 40) (H : VcB b a o h) (h0 : 0 ≤ h) (h1 : h < 18446744073709551616) {k : Nat} (hk : k < vcN a o) {s s2 : AW} (I : VfI b a o s0 k s) {t : Int}
    (hM : s2.M = upd (upd s.M (vcP b a o k).tags t) (vcP b a o k).item 0) (hn : s2.nt = s.nt) : ∃ y z, runN vcOver vcStep 99 (s2, vcNew b h) = (3 * k + 1, y, z) ∧ z.is = true ∧ z.p = vcP b a o k ∧ y.nt = [] := by
  have hN := vcN_le a o
  have hb1 := H.b1
  have ok : ∀ i, i < 8 → (vcP b a o i).ok := fun i hi => H.ok h0 h1 i hi
  have hpt := (ok k (by omega)).tags
  have hpi := (ok k (by omega)).item
  have hI2 : ∀ j, j < k → vcI b a o s2.M j = vcI b a o s0.M j := fun j hj => by
    have hj2 := (ok j (by omega)).item
    have ne1 : (vcP b a o j).item ≠ (vcP b a o k).item := fun e => by
      have := vcP_inj (by omega) hk (Spt.item_inj (ok j (by omega)) (ok k (by omega)) (by rw [vcP_b, vcP_b]) e)
      omega
    have ne2 := Spt.item_ne_tags (ok j (by omega)) (ok k (by omega)) (by rw [vcP_b, vcP_b])
    unfold vcI
    rw [hM, upd_other _ ne1, upd_other _ ne2, I.lo _ (by omega)]
  have hm : ∀ j, j < k → s2.M (plRef (vcI b a o s2.M j)) = 1 := fun j hj => by
    have hr := plRef_bd (I.ms j hj).1
    rw [hI2 j hj, hM, upd_other _ (by omega), upd_other _ (by omega)]
    exact (I.ms j hj).2
  obtain ⟨y, z, g1, g2, g3, g4⟩ := vc_free (s := s2) H.b0 (by omega) H.ha H.ho k hk (fun j hj => by
      rw [hI2 j hj]
      have := (I.ms j hj).1
      have := vf_item F hks (ok j (by omega)) (vcP_b b a o j)
      unfold vcI at *
      omega) (fun j hj => by have := (ok j hj).item; omega) (fun i j hi hj e => by
      rw [hI2 i hi, hI2 j hj] at e
      have := F.fil.inj (vcP b a o i) (vcP b a o j) (ok i (by omega)) (ok j (by omega)) (vcP_b _ _ _ _) (vcP_b _ _ _ _) e (by have := (I.ms i hi).1; unfold vcI at this; omega)
      exact vcP_inj (by omega) (by omega) this) (fun j hj => by rw [hm j hj]; rfl) (by unfold vcI; rw [hM, upd_same]) 99 (by omega)
  exact ⟨y, z, g1, g2, g3, by rw [g4, hn, I.nt, F.nt]⟩
end
set_option maxHeartbeats 8000000 in
set_option maxRecDepth 100000 in
theorem w_VictimsFree (v : Value) (F : Ful) (which : Int) (w : World) (g : FulBd F) (c : FulAt w v F) (r0 : 0 ≤ which) (r1 : which ≤ 255) :
    Calls Tryz.prog 6 #[v, .int .u8 which] w fun e w' => e = .returned (.bool true) ∧ Below w.heap.size w w' := by
  have HG : Hid (∀ W, Below w.heap.size w W → Calls Tryz.prog 13 #[v] W (FulGreat W F)) := Lib.hid fun W hb => c_Great17 (c.below hb) g
  have HM : Hid (∀ W, Below w.heap.size w W → F.ks.length ≤ 40 → F.ly.length ≤ 80 → Calls Tryz.prog 35 #[v] W (FulPost W F)) := Lib.hid fun W hb hk hl => c_FulWorld (c.below hb) g hk hl
  obtain ⟨vk, vl, vs, rfl, -, -, -⟩ := c.ex
  obtain ⟨b, hb⟩ : ∃ b, b = fulB F := ⟨_, rfl⟩
  have hbi : 1 ≤ b ∧ b ≤ 3 := by rw [hb]; unfold fulB; have := g.b0; omega
  have hkz := g.kz
  unfold FulPost at HM
  unfold FulGreat at HG
  rw [← hb] at HM
  unfold fulV at HG HM ⊢
  clear c g hb
  go_enter Tryz.func6, Tryz.ntmps6
  have hbox := fulBox (w := w) (F := F) (vk := vk) (vl := vl) (vs := vs) 26
  unfold fulC at hbox
  have hb0 := (Below.refl w.heap.size w).alloc (Nat.le_refl _) (.cells #[.int .u8 F.bi, vk, vl, .string F.ky, .int .u8 F.mo, vs] 26)
  have hl0 : w.heap.size < (w.alloc (.cells #[.int .u8 F.bi, vk, vl, .string F.ky, .int .u8 F.mo, vs] 26)).heap.size := by simp
  have y0 := hbox 0 _ rfl
  have y1 := hbox 1 _ rfl
  have y2 := hbox 2 _ rfl
  have y3 := hbox 3 _ rfl
  have y4 := hbox 4 _ rfl
  have y5 := hbox 5 _ rfl
  go_wp2_with fail
  obtain ⟨W0, hW0⟩ : ∃ W, W = w.alloc (.cells #[.int .u8 F.bi, vk, vl, .string F.ky, .int .u8 F.mo, vs] 26) := ⟨_, rfl⟩
  rw [← hW0] at hbox hb0 hl0 ⊢
  have HB0 := Lib.hid hb0
  have HL0 := Lib.hid hl0
  have HBX := Lib.hid hbox
  clear hW0 y0 y1 y2 y3 y4 y5 hbox hb0 hl0
  refine (HG.out W0 HB0.out).mono ?_
  rintro e w1 ⟨gr, rfl, hb1, hg⟩
  have B1 : Hid (Below w.heap.size w w1) := Lib.hid (HB0.out.trans (hb1.mono HB0.out.size))
  cases gr with
  | true =>
    clear hg hb1
    go_wp2_with fail
    refine (c_lives24 w1).mono ?_
    rintro e w2 ⟨rfl, hb2⟩
    go_wp2_with fail
    go_ret
    exact ⟨rfl, B1.out.trans (hb2.mono B1.out.size)⟩
  | false =>
    obtain ⟨hks, hly, -⟩ := hg rfl
    have hbx : ∀ j u, [Value.int .u8 F.bi, vk, vl, .string F.ky, .int .u8 F.mo, vs][j]? = some u → w1.cell? ⟨w.heap.size, j, none⟩ = some u := fun j u hu => (hb1.cell (p := ⟨w.heap.size, j, none⟩) HL0.out).trans (HBX.out j u hu)
    have hq1 : w.heap.size < w1.heap.size := Nat.lt_of_lt_of_le HL0.out hb1.size
    have y0 := hbx 0 _ rfl
    have y1 := hbx 1 _ rfl
    have y2 := hbx 2 _ rfl
    have y3 := hbx 3 _ rfl
    have y4 := hbx 4 _ rfl
    have y5 := hbx 5 _ rfl
    have Y3 := Lib.hid y3
    clear hg hb1 hbx HBX HL0 HB0 HG
    go_wp2_with fail
    refine (HM.out w1 B1.out hks hly).mono ?_
    rintro e w2 ⟨B, O2, s0, rfl, hP, hE, hS⟩
    clear y0 y1 y2 y3 y4 y5 HM
    have y3 := (hE.bel.cell (p := ⟨w.heap.size, 3, none⟩) hq1).trans Y3.out
    have L2 := Lib.hid (LW.from ⟨hP, hE⟩ B1.out)
    have FS := Lib.hid hS
    have hwd := hS.fil.wd
    clear hP hE hS B1 Y3 hq1
    have p0 := L2.out.p.wo.c0
    have HPK := Lib.hid (L2.out.peek 2 (by decide) (by decide) w2 (Below.refl _ _))
    rw [hwd] at HPK
    have HAS := c_As b w2 (by omega) (by omega)
    rw [plOld_one hbi.1 (by omega), plNow_one hbi.1 (by omega)] at HAS
    have HAS := Lib.hid HAS
    clear hwd
    go_wp2_with fail
    refine HPK.out.mono ?_
    rintro e w' ⟨rfl, rfl⟩
    go_wp2_with fail
    refine HAS.out.mono ?_
    rintro e w' ⟨rfl, rfl⟩
    clear HPK HAS p0
    have HHS := Lib.hid (c_Hash F.ky w2 hkz)
    have hhb := fnvHash_bd F.ky.data.toList
    obtain ⟨h, hh⟩ : ∃ h, h = fnvHash F.ky.data.toList := ⟨_, rfl⟩
    rw [← hh] at HHS hhb
    clear hh
    go_wp2_with fail
    refine HHS.out.mono ?_
    rintro e w3 ⟨rfl, rfl⟩
    have L3 := Lib.hid (L2.out.below ((Below.refl _ _).alloc (Nat.le_refl _) (.cells #[.int .u64 h] 187)))
    obtain ⟨a, ha⟩ : ∃ a, a = fnvBucket h b := ⟨_, rfl⟩
    obtain ⟨o, ho⟩ : ∃ o, o = fnvOther a (fnvTag h) b := ⟨_, rfl⟩
    have VB := Lib.hid (VcB.mk hbi.1 hbi.2 ha ho)
    have HOW := Lib.hid (fun W => c_own b h a o W hbi.1 (by omega) hhb.1 hhb.2 ha ho)
    clear ha ho HHS L2
    go_wp2_with fail
    obtain ⟨W3, hW3⟩ : ∃ W, W = w2.alloc (.cells #[.int .u64 h] 187) := ⟨_, rfl⟩
    rw [← hW3] at L3 ⊢
    clear hW3 y3
    refine (HOW.out W3).mono ?_
    rintro e w4 ⟨g4, c4, rfl, hg4, hA4, hb4⟩
    have L4 := Lib.hid (L3.out.below hb4)
    have hNN := vcN_le a o
    have hOA := OwA.of (G := O2) hA4 (by
      by_cases q : O2 g4 = 0
      · exact q
      · exact absurd (L3.out.hi _ q) (by omega))
    obtain ⟨N, hN⟩ : ∃ N, N = vcN a o := ⟨_, rfl⟩
    rw [← hN] at hA4 hNN hOA ⊢
    obtain ⟨ao, c5, he5, hc4, hm4⟩ := hA4.shape
    cases he5
    have OA := Lib.hid hOA
    have HNE := Lib.hid hN
    have hNx : N ≤ 9223372036854775807 := by omega
    obtain ⟨k, hk⟩ : ∃ k : Nat, (k : Int) = which % (N : Int) := ⟨(which % (N : Int)).toNat, by have := Int.emod_nonneg which (show (N : Int) ≠ 0 by omega); omega⟩
    have hkN : k < N := by have := Int.emod_lt_of_pos which (show 0 < (N : Int) by omega); omega
    clear hA4 hN L3 HOW hb4 hg4 hOA
    go_upto_region 12 with fail
    rw [← hk]
    clear hk
    have V0 : Hid (VfI b a o s0 0 s0) := Lib.hid ⟨fun _ _ => rfl, fun j hj => by omega, rfl, FS.out.n0, by have := FS.out.n1; omega⟩
    go_loopw [11, 12] (fun lv iv wr => ∃ (i : Nat) (G : Om) (s : AW), iv = .int .i64 i ∧ lv = .int .i64 (3 * (i : Int) + 1) ∧ i ≤ k ∧ LW w wr G B ⟨b, 8, 3, 1, 16⟩ s ∧ VfI b a o s0 i s ∧ OwA wr G g4 N b a o) (fun _ iv _ => k - (intOf iv).toNat)
    case atStart => exact ⟨0, O2, s0, rfl, rfl, Nat.zero_le _, L4.out, V0.out, OA.out⟩
    case round =>
      clear L4 V0 OA
      obtain ⟨i, G5, s5, rfl, rfl, hi, hL, hV, hB⟩ := hrel
      have L5 := Lib.hid hL
      have V5 := Lib.hid hV
      have B5 := Lib.hid hB
      have p0 := hL.p.wo.c0
      have hn5 : 0 ≤ s5.n ∧ s5.n ≤ 2000 := by have := hV.n0; have := hV.n1; omega
      clear hL hV hB
      by_cases hi2 : i < k
      · obtain ⟨c0, c1, c2⟩ := B5.out.c i (by omega)
        obtain ⟨p, hp⟩ : ∃ p, p = vcP b a o i := ⟨_, rfl⟩
        rw [← hp] at c0 c1 c2
        have hpo : p.ok := by rw [hp]; exact VB.out.ok hhb.1 hhb.2 i (by omega)
        have hit := vf_item FS.out hks hpo (by rw [hp]; exact vcP_b _ _ _ _)
        obtain ⟨it, hie⟩ : ∃ it, it = s0.M p.item := ⟨_, rfl⟩
        rw [← hie] at hit
        have HS := c_Slot p L5.out.p hpo L5.out.hi
        rw [V5.out.lo p.item (by have := hpo.item; omega), ← hie] at HS
        have HS := Lib.hid HS
        have HIE : Hid (it = vcI b a o s0.M i) := Lib.hid (by rw [hie, hp]; rfl)
        have hib0 : (0 : Int) ≤ (i : Int) := by omega
        have hib1 : (i : Int) < (N : Int) := by omega
        clear hp hpo hie
        go_wp2_with fail
        refine HS.out.mono ?_
        rintro e w6 ⟨rfl, hb6⟩
        have L6 := Lib.hid (L5.out.below hb6)
        have B6 := Lib.hid (B5.out.below hb6)
        clear hb6 c0 c1 c2 p0 HS
        by_cases hz : it = 0
        · have e1 : (it == 0) = true := by simp [hz]
          go_wp2_with fail
          refine (c_lives24 w6).mono ?_
          rintro e w7 ⟨rfl, hb7⟩
          go_wp2_with fail
          go_ret
          exact ⟨rfl, L6.out.bel.trans (hb7.mono L6.out.bel.size)⟩
        · have e1 : (it == 0) = false := by simp [hz]
          have e2 : decide ((63 : Int) < it) = false := decide_eq_false (by omega)
          have p6 := L6.out.p.wo.c0
          obtain ⟨rf, hrf⟩ : ∃ rf, rf = plRef it := ⟨_, rfl⟩
          have hrb : 0 ≤ rf ∧ rf < 18446744073709551616 := by rw [hrf]; unfold plRef; split <;> omega
          have hwr : IntKind.i64.wrap it = it := by simp [IntKind.wrap, IntKind.bits, IntKind.signed]; omega
          have HRF : Hid (∀ W, Calls Tryz.prog 26 #[.int .i64 (IntKind.i64.wrap it)] W fun e w' => e = .returned (.int .u64 rf) ∧ W = w') := Lib.hid fun W => by rw [hwr, hrf]; exact c_Ref it W (by omega) (by omega)
          have HST := Lib.hid (c_StoreP rf 1 (w := w6.drew) (L6.out.p.below L6.out.hi (drew_below w6)) (fun j hj => L6.out.hi j hj) hrb.1 hrb.2 (by decide) (by decide) hn5.1 (by omega))
          have HD : Hid (LW w w6.drew G5 B ⟨b, 8, 3, 1, 16⟩ s5) := Lib.hid (L6.out.below (drew_below w6))
          have V6 : Hid (VfI b a o s0 (i + 1) (awStore rf 1 s5)) := Lib.hid (by rw [hrf, HIE.out]; exact V5.out.more (by rw [← HIE.out]; omega))
          have BD := Lib.hid (B6.out.below (drew_below w6))
          clear hrf hwr
          go_wp2_with fail
          go_region_held3 (fun w' => w'.cell? ⟨B.p, 0, none⟩ = some (.pointer (some ⟨B.c, 0, none⟩))) (go_keep)
            ((first
              | (go_at_call 26
                 refine (HRF.out _).mono ?_
                 rintro e w' ⟨rfl, rfl⟩)
              | (go_at_call 39
                 refine HST.out.mono ?_
                 rintro e w7 ⟨rfl, G7, e7, P7⟩
                 have L7 := Lib.hid (HD.out.to e7 P7)
                 have q7 := L7.out.p.wo.c0
                 have B7 := Lib.hid (BD.out.ext e7 sw0)
                 clear e7 P7)))
          all_goals
            go_wp2_with fail
            go_roundw
            case rel => exact ⟨i + 1, G7, _, by go_num, by go_num, by omega, L7.out, V6.out, B7.out⟩
            case measure => simp [intOf]; omega
      · have hik : i = k := by omega
        subst hik
        obtain ⟨c0, c1, c2⟩ := B5.out.c i (by omega)
        obtain ⟨p, hp⟩ : ∃ p, p = vcP b a o i := ⟨_, rfl⟩
        rw [← hp] at c0 c1 c2
        have hpo : p.ok := by rw [hp]; exact VB.out.ok hhb.1 hhb.2 i (by omega)
        have HPO := Lib.hid hpo
        have HPE := Lib.hid hp
        have HNO := Lib.hid (c_NewOut (w := wr) (k := 10) hpo L5.out.hi)
        have hib0 : (0 : Int) ≤ (i : Int) := by omega
        have hib1 : (i : Int) < (N : Int) := by omega
        clear hi hi2 hp hpo p0
        go_wp2_with fail
        refine HNO.out.mono ?_
        rintro e w6 ⟨U, rfl, G6, e6, u6⟩
        have L6 := L5.out.ext e6 (by decide) (by decide) (by decide) (by decide)
        have B6 := Lib.hid (B5.out.ext e6 (by decide))
        have HRn := c_OuRun (k := 10) U p 9 L6.p u6 HPO.out (by decide) L6.hi hn5.1 (by omega)
        obtain ⟨y1, z1, hrun, hM1, hnt1, -, hn1⟩ := ou_run p s5 9 (by decide)
        rw [hrun] at HRn
        dsimp only at HRn
        have HRn := Lib.hid HRn
        have L6 := Lib.hid L6
        obtain ⟨y, z, hrun2, his, hzp, hynt⟩ := vf_plain FS.out hks VB.out hhb.1 hhb.2 (by rw [← HNE.out]; omega) V5.out (by rw [← HPE.out]; exact hM1) hnt1
        rw [← HPE.out] at hzp
        have hyb : 0 ≤ y1.n ∧ y1.n ≤ 3000 := by omega
        have HVR : Hid (runN vcOver vcStep 99 (y1, vcNew b h) = (3 * i + 1, y, z) ∧ vcGot z = (p, true) ∧ y.nt = []) := Lib.hid ⟨hrun2, by unfold vcGot; rw [if_pos his, hzp], hynt⟩
        clear e6 u6 hrun hM1 hnt1 hn1 hrun2 his hzp hynt c0 c1 c2
        go_wp2_with fail
        refine HRn.out.mono ?_
        rintro e w7 ⟨rfl, G7, e7, P7⟩
        have L7 := Lib.hid (L6.out.to e7 P7)
        have B7 := Lib.hid (B6.out.ext e7 (sx0 (by decide)))
        clear e7 P7 HRn L6 B6
        have HNV := Lib.hid (c_NewVictim (w := w7) (O := G7) (k := 20) b h (by omega) (by omega) hhb.1 hhb.2 (by decide) L7.out.hi)
        go_wp2_with fail
        refine HNV.out.mono ?_
        rintro e w8 ⟨X, rfl, G8, e8, x8⟩
        have L8 := L7.out.ext e8 (by omega) (by omega) (by omega) (by omega)
        have B8 := Lib.hid (B7.out.ext e8 (by omega))
        have HRv := c_VcRun (k := 20) X (vcNew b h) 99 L8.p x8 (vcNew_ok b h hhb.1 hhb.2) (by decide) L8.hi hyb.1 (by omega)
        rw [HVR.out.1] at HRv
        dsimp only at HRv
        rw [show (((3 * i + 1 : Nat) : Int)) = 3 * (i : Int) + 1 by omega] at HRv
        have HRv := Lib.hid HRv
        have L8 := Lib.hid L8
        clear e8 x8 HNV L7 B7
        go_wp2_with fail
        refine HRv.out.mono ?_
        rintro e w9 ⟨rfl, G9, e9, P9, x9, -⟩
        have L9 := Lib.hid (L8.out.to e9 P9)
        have B9 := Lib.hid (B8.out.ext e9 (sx0 (by decide)))
        have HG := c_VcGot x9
        rw [HVR.out.2.1] at HG
        unfold sptV at HG
        dsimp only at HG
        have HG := Lib.hid HG
        clear e9 P9 x9 HRv L8 B8
        go_wp2_with fail
        refine HG.out.mono ?_
        rintro e w10 ⟨rfl, hb10⟩
        have L10 := L9.out.below hb10
        obtain ⟨-, V10⟩ := alloc_nbH (S := SW) L10.hi #[.int .i64 p.b, .int .i64 p.q, .int .i64 p.s] 45 w10.heap.size rfl
        have hba := (Below.refl w10.heap.size w10).alloc (Nat.le_refl _) (.cells #[.int .i64 p.b, .int .i64 p.q, .int .i64 p.s] 45)
        have L11 := Lib.hid (L10.below hba)
        have B11 := Lib.hid ((B9.out.below hb10).below hba)
        have V11 := Lib.hid V10
        clear hb10 L10 V10 hba HG L9 B9
        go_upto_region 23 with fail
        obtain ⟨W, hW⟩ : ∃ W, W = w10.alloc (.cells #[.int .i64 p.b, .int .i64 p.q, .int .i64 p.s] 45) := ⟨_, rfl⟩
        rw [← hW] at L11 B11 V11 ⊢
        clear hW
        obtain ⟨X3, hX3⟩ : ∃ X3, X3 = w10.heap.size := ⟨_, rfl⟩
        rw [← hX3] at V11 ⊢
        clear hX3
        obtain ⟨c0, c1, c2⟩ := B11.out.c i (by omega)
        rw [← HPE.out] at c0 c1 c2
        have v0 := V11.out.c 0 _ rfl
        have v1 := V11.out.c 1 _ rfl
        have v2 := V11.out.c 2 _ rfl
        have hl3 := V11.out.lt
        have hlg := B11.out.lt
        have hlp := L11.out.p.wo.lt
        obtain ⟨an, cn, hnt⟩ := L11.out.notes
        have p2 := (hnt W (Below.refl _ _)).1
        have HCN : Hid (∀ e : Later W, Calls Tryz.prog 24 #[.pointer (some ⟨B.np, 0, none⟩)] (via W e) fun e_1 w' => e_1 = .returned (.int .i64 0) ∧ via W e = w') := Lib.hid fun e => by
          have h := (hnt _ (via_below W e)).2
          rw [HVR.out.2.2] at h
          exact c_NCountL _ _ _ _ _ h
        clear hnt
        refine wp_region_via (by kernel_rfl) (by kernel_rfl) ?_
        repeat (go_big_quiet_step ((first
          | (go_at_call 24; exact viaS (HCN.out _))
          | (go_at_call 34; exact viaB (c_lives24 _)))))
        refine wpQuiet_nil ?_
        rintro _ ⟨e, rfl⟩
        go_wp2_with fail
        go_ret
        exact ⟨rfl, L11.out.bel.trans ((via_below W e).mono L11.out.bel.size)⟩
end Go.Proofs.YtlcibfpibklbdaaGreat
