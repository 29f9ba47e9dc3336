/- Layer 24: VictimsOne. -/
import Derived.Test.YtlcibfpibklbdaaGreatVoQ
namespace Go.Proofs.YtlcibfpibklbdaaGreat
set_option linter.unusedSimpArgs false
open Go.RowKit Go.Shelf
set_option linter.unusedVariables false
set_option maxHeartbeats 40000000 in
set_option maxRecDepth 100000 in
theorem w_VictimsOne (v : Value) (F : Ful) (vm : Value) (ml : List Int) (w : World) (g : FulBd F) (c : FulAt w v F) (gm : ∀ z ∈ ml, 0 ≤ z ∧ z ≤ 255) (cm : Arr w vm ml.length 1 (rowOf byArg ml)) :
    Calls Tryz.prog 7 #[v, vm] w fun e w' => e = .returned (.bool true) ∧ Below w.heap.size w w' := by
  obtain ⟨am, cc, rfl, hcc, hmm⟩ := cm.shape
  have HG : Hid (∀ W, Below w.heap.size w W → Calls Tryz.prog 13 #[v] W (FulGreat W F)) := Lib.hid fun W hb => c_Great17 (c.below hb) g
  have HM : Hid (∀ W, Below w.heap.size w W → F.ks.length ≤ 40 → F.ly.length ≤ 80 → Calls Tryz.prog 35 #[v] W (FulPost W F)) := Lib.hid fun W hb hk hl => c_FulWorld (c.below hb) g hk hl
  obtain ⟨vk, vl, vs, rfl, -, -, -⟩ := c.ex
  obtain ⟨b, hb⟩ : ∃ b, b = fulB F := ⟨_, rfl⟩
  have hbi : 1 ≤ b ∧ b ≤ 3 := by rw [hb]; unfold fulB; have := g.b0; omega
  have hkz := g.kz
  have HKS := Lib.hid g.ks
  have HML := Lib.hid gm
  have HCM := Lib.hid cm
  have hmx : ml.length ≤ 9223372036854775807 := by unfold maxLen at hmm; omega
  unfold FulPost at HM
  unfold FulGreat at HG
  rw [← hb] at HM
  unfold fulV at HG HM ⊢
  clear c g hb gm cm
  go_enter Tryz.func7, Tryz.ntmps7
  have hbox := fulBox (w := w) (F := F) (vk := vk) (vl := vl) (vs := vs) 26
  unfold fulC at hbox
  have hb0 := (Below.refl w.heap.size w).alloc (Nat.le_refl _) (.cells #[.int .u8 F.bi, vk, vl, .string F.ky, .int .u8 F.mo, vs] 26)
  have hl0 : w.heap.size < (w.alloc (.cells #[.int .u8 F.bi, vk, vl, .string F.ky, .int .u8 F.mo, vs] 26)).heap.size := by simp
  have y0 := hbox 0 _ rfl
  have y1 := hbox 1 _ rfl
  have y2 := hbox 2 _ rfl
  have y3 := hbox 3 _ rfl
  have y4 := hbox 4 _ rfl
  have y5 := hbox 5 _ rfl
  go_wp2_with fail
  obtain ⟨W0, hW0⟩ : ∃ W, W = w.alloc (.cells #[.int .u8 F.bi, vk, vl, .string F.ky, .int .u8 F.mo, vs] 26) := ⟨_, rfl⟩
  rw [← hW0] at hbox hb0 hl0 ⊢
  have HB0 := Lib.hid hb0
  have HL0 := Lib.hid hl0
  have HBX := Lib.hid hbox
  clear hW0 y0 y1 y2 y3 y4 y5 hbox hb0 hl0
  refine (HG.out W0 HB0.out).mono ?_
  rintro e w1 ⟨gr, rfl, hb1, hg⟩
  have B1 : Hid (Below w.heap.size w w1) := Lib.hid (HB0.out.trans (hb1.mono HB0.out.size))
  have fin : Hid (∀ w2, Below w1.heap.size w1 w2 → Below w.heap.size w w2) := Lib.hid fun w2 hb2 => B1.out.trans (hb2.mono B1.out.size)
  cases gr with
  | true =>
    clear hg hb1
    go_wp2_with fail
    refine (c_lives24 w1).mono ?_
    rintro e w2 ⟨rfl, hb2⟩
    go_wp2_with fail
    go_ret
    exact ⟨rfl, fin.out w2 hb2⟩
  | false =>
  by_cases hml : 60 < ml.length
  · have d0 : decide ((60 : Int) < (ml.length : Int)) = true := decide_eq_true (by omega)
    clear hg hb1
    go_wp2_with fail
    refine (c_lives24 w1).mono ?_
    rintro e w2 ⟨rfl, hb2⟩
    go_wp2_with fail
    go_ret
    exact ⟨rfl, fin.out w2 hb2⟩
  · have d0 : decide ((60 : Int) < (ml.length : Int)) = false := decide_eq_false (by omega)
    obtain ⟨hks, hly, -⟩ := hg rfl
    have hbx : ∀ j u, [Value.int .u8 F.bi, vk, vl, .string F.ky, .int .u8 F.mo, vs][j]? = some u → w1.cell? ⟨w.heap.size, j, none⟩ = some u := fun j u hu => (hb1.cell (p := ⟨w.heap.size, j, none⟩) HL0.out).trans (HBX.out j u hu)
    have hq1 : w.heap.size < w1.heap.size := Nat.lt_of_lt_of_le HL0.out hb1.size
    have y0 := hbx 0 _ rfl
    have y1 := hbx 1 _ rfl
    have y2 := hbx 2 _ rfl
    have y3 := hbx 3 _ rfl
    have y4 := hbx 4 _ rfl
    have y5 := hbx 5 _ rfl
    have Y3 := Lib.hid y3
    clear hg hb1 hbx HBX HL0 HB0 HG
    go_wp2_with fail
    refine (HM.out w1 B1.out hks hly).mono ?_
    rintro e w2 ⟨B, O2, s0, rfl, hP, hE, hS⟩
    clear y0 y1 y2 y3 y4 y5 HM
    have hqo : O2 w.heap.size = 0 := by
      by_cases q : O2 w.heap.size = 0
      · exact q
      · exact absurd (hE.base _ q) (by omega)
    have hq2 : w.heap.size < w2.heap.size := Nat.lt_of_lt_of_le hq1 hE.bel.size
    obtain ⟨Q, hQ⟩ : ∃ Q, Q = w.heap.size := ⟨_, rfl⟩
    have Q2 : Hid (O2 Q = 0 ∧ Q < w2.heap.size ∧ w2.cell? ⟨Q, 3, none⟩ = some (.string F.ky)) := Lib.hid ⟨by rw [hQ]; exact hqo, by rw [hQ]; exact hq2, by rw [hQ]; exact (hE.bel.cell (p := ⟨w.heap.size, 3, none⟩) hq1).trans Y3.out⟩
    have L2 := Lib.hid (LW.from ⟨hP, hE⟩ B1.out)
    have FS := Lib.hid hS
    have V2 := Lib.hid (VmI.start hS)
    clear hP hE hS B1 Y3 hq1 hqo hq2
    go_upto_region 7 with fail
    rw [← hQ]
    clear hQ
    go_loopw [6] (fun iv wr => ∃ (i : Nat) (G : Om) (s : AW), iv = .int .i64 i ∧ i ≤ ml.length ∧ LW w wr G B ⟨b, 8, 3, 1, 16⟩ s ∧ VmI s0 s i ∧ (G Q = 0 ∧ Q < wr.heap.size ∧ wr.cell? ⟨Q, 3, none⟩ = some (.string F.ky))) (fun iv _ => ml.length - (intOf iv).toNat)
    case atStart => exact ⟨0, O2, s0, rfl, Nat.zero_le _, L2.out, V2.out, Q2.out⟩
    case round =>
      clear L2 V2 Q2
      obtain ⟨i, G3, s3, rfl, hi, hL, hV, hQ⟩ := hrel
      have L3 := Lib.hid hL
      have V3 := Lib.hid hV
      have Q3 := Lib.hid hQ
      have p0 := hL.p.wo.c0
      have hn3 : 0 ≤ s3.n ∧ s3.n ≤ 1100 := by have := hV.n0; have := hV.n1; omega
      clear hL hV hQ
      by_cases hi2 : i < ml.length
      · obtain ⟨A, o, c', he, -, -, hlt, hx⟩ := HCM.out.open (by omega) (by omega)
        cases he
        obtain ⟨z, hz⟩ : ∃ z, z = ml[i] := ⟨_, rfl⟩
        have hr0 : (rowOf byArg ml)[i]? = (byArg z)[0]? := by rw [hz]; have := rowOf_get byArg_len2 ml i 0 hi2 (by omega); rw [Nat.mul_one] at this; exact this
        have hc0 := hx _ _ hr0
        have v0 : wr.cell? ⟨A, o + i, none⟩ = some (.int .u8 z) := (L3.out.bel.cell (p := ⟨A, o + i, none⟩) hlt).trans hc0
        have HC0 := Lib.hid hc0
        have hzb := HML.out z (by rw [hz]; exact List.getElem_mem _)
        have hib0 : (0 : Int) ≤ (i : Int) := by omega
        have hib1 : (i : Int) < (ml.length : Int) := by omega
        clear hx hr0 hc0 hz
        obtain ⟨r, hr⟩ : ∃ r, r = 1 + z % 63 := ⟨_, rfl⟩
        obtain ⟨mv, hmv⟩ : ∃ mv, mv = 1 + 2 * (z / 63) := ⟨_, rfl⟩
        have hrb : 1 ≤ r ∧ r ≤ 63 := by omega
        have hmb : mv % 2 = 1 ∧ 1 ≤ mv ∧ mv ≤ 20 := by omega
        have ew : IntKind.i64.wrap (1 + IntKind.i64.wrap (z.tmod 63)) = r := by
          rw [Int.tmod_eq_emod_of_nonneg hzb.1, hr]; simp [IntKind.wrap, IntKind.bits, IntKind.signed]; omega
        have ev : IntKind.u64.wrap (1 + IntKind.u64.wrap (2 * IntKind.u64.wrap (IntKind.u8.wrap (z.tdiv 63)))) = mv := by
          rw [Int.tdiv_eq_ediv_of_nonneg hzb.1, hmv]; simp [IntKind.wrap, IntKind.bits, IntKind.signed]; omega
        obtain ⟨rf, hrf⟩ : ∃ rf, rf = plRef r := ⟨_, rfl⟩
        have hfb : 0 ≤ rf ∧ rf < 18446744073709551616 := by rw [hrf]; unfold plRef; split <;> omega
        have HRF : Hid (∀ W, Calls Tryz.prog 26 #[.int .i64 (IntKind.i64.wrap (1 + IntKind.i64.wrap (z.tmod 63)))] W fun e w' => e = .returned (.int .u64 rf) ∧ W = w') := Lib.hid fun W => by rw [ew, hrf]; exact c_Ref r W (by omega) (by omega)
        have HST : Hid (Calls Tryz.prog 39 #[.pointer (some ⟨B.c, 0, none⟩), .int .u64 rf, .int .u64 (IntKind.u64.wrap (1 + IntKind.u64.wrap (2 * IntKind.u64.wrap (IntKind.u8.wrap (z.tdiv 63)))))] wr.drew (RP SW wr.drew G3 (.int .u64 (s3.M rf)) fun W G => PW W G B ⟨b, 8, 3, 1, 16⟩ (awStore rf mv s3))) := Lib.hid (by rw [ev]; exact c_StoreP rf mv (w := wr.drew) (L3.out.p.below L3.out.hi (drew_below wr)) (fun j hj => L3.out.hi j hj) hfb.1 hfb.2 (by omega) (by omega) hn3.1 (by omega))
        have HD : Hid (LW w wr.drew G3 B ⟨b, 8, 3, 1, 16⟩ s3) := Lib.hid (L3.out.below (drew_below wr))
        have V4 : Hid (VmI s0 (awStore rf mv s3) (i + 1)) := Lib.hid (by rw [hrf]; exact V3.out.more hrb.1 hmb)
        clear hr hmv ew ev hrf hmb
        go_wp2_with fail
        go_region_held3 (fun w' => w'.cell? ⟨B.p, 0, none⟩ = some (.pointer (some ⟨B.c, 0, none⟩)) ∧ w'.cell? ⟨A, o + i, none⟩ = some (.int .u8 z)) (go_keep)
          ((first
            | (go_at_call 26
               refine (HRF.out _).mono ?_
               rintro e w' ⟨rfl, rfl⟩)
            | (go_at_call 39
               refine HST.out.mono ?_
               rintro e w6 ⟨rfl, G6, e6, P6⟩
               have L6 := Lib.hid (HD.out.to e6 P6)
               have q06 := L6.out.p.wo.c0
               have v06 : w6.cell? ⟨A, o + i, none⟩ = some (.int .u8 z) := (L6.out.bel.cell (p := ⟨A, o + i, none⟩) hlt).trans HC0.out
               have Q6 : Hid (G6 Q = 0 ∧ Q < w6.heap.size ∧ w6.cell? ⟨Q, 3, none⟩ = some (.string F.ky)) := Lib.hid ⟨(e6.lo Q Q3.out.2.1).trans Q3.out.1, Nat.lt_of_lt_of_le Q3.out.2.1 e6.size, (e6.cell (p := ⟨Q, 3, none⟩) Q3.out.2.1 (by rw [Q3.out.1]; exact sw0)).trans Q3.out.2.2⟩
               clear e6 P6)))
        all_goals
          go_wp2_with fail
          go_roundw
          case rel => exact ⟨i + 1, G6, _, by go_num, by omega, L6.out, V4.out, Q6.out⟩
          case measure => simp [intOf]; omega
      · have hie : i = ml.length := by omega
        subst hie
        clear hi hi2 HCM p0
        have hsp := plSpots_3 hbi.1 hbi.2
        obtain ⟨A, hA⟩ : ∃ A : Nat, (A : Int) = plSpots b := ⟨(plSpots b).toNat, by omega⟩
        rw [← hA] at hsp
        have HA := Lib.hid hA
        clear hA
        have HSL : Hid (∀ n : Nat, n < A → StAt b F.ks s3.M (plAt b n)) := Lib.hid fun n hn => by
          have hp := plAt_ok b n
          have h1 := hp.tags
          have h2 := hp.item
          have hpb : (plAt b n).b = b := plAt_b hbi.1 hbi.2 n
          refine StAt.of hbi.1 (by omega) hpb ?_
          unfold FilAt
          rw [V3.out.lo (plAt b n).tags (by omega), V3.out.lo (plAt b n).item (by omega)]
          exact FS.out.fil.slot _ hp hpb
        have HITS : Hid (s3.it = F.ks.map fulIt) := Lib.hid (V3.out.it.trans FS.out.it)
        have HWD : Hid (s3.M 2 = b) := Lib.hid ((V3.out.lo 2 (by decide)).trans FS.out.fil.wd)
        have HST := Lib.hid (c_Stand (A := A) L3.out (by omega) (by omega) HWD.out HA.out (by omega) HITS.out hks HKS.out HSL.out)
        go_wp2_with fail
        refine HST.out.mono ?_
        rintro e w4 ⟨rfl, hb4⟩
        have L4 := Lib.hid (L3.out.below hb4)
        have Q4 : Hid (G3 Q = 0 ∧ Q < w4.heap.size ∧ w4.cell? ⟨Q, 3, none⟩ = some (.string F.ky)) := Lib.hid ⟨Q3.out.1, Nat.lt_of_lt_of_le Q3.out.2.1 hb4.size, (hb4.cell (p := ⟨Q, 3, none⟩) Q3.out.2.1).trans Q3.out.2.2⟩
        obtain ⟨R0, hR0⟩ : ∃ R0, R0 = (ir .i64 (stC b s3.M A) 64).toArray := ⟨_, rfl⟩
        have hR0s : R0.size = 64 := by rw [hR0]; exact ir_size _ _ _
        have hR0a : R0.all (·.oneCell') = true := by rw [hR0]; exact ir_all _ _ _
        rw [← hR0]
        have HR0 := Lib.hid hR0
        obtain ⟨V0, hV0⟩ : ∃ V0, V0 = Value.agg R0 := ⟨_, rfl⟩
        rw [← hV0]
        have HV0 := Lib.hid hV0
        clear hR0 hb4 HST L3 Q3 hV0
        go_upto_region 11 with (first
          | (refine wpList_store_row rfl 85 _ _ rfl w4.heap.size R0 rfl HV0.out 85 _ (heap_alloc_new _ _) (by rw [hR0s]; kernel_rfl) (by rw [hR0s]; rfl) hR0a ?_))
        obtain ⟨G5, e5, x5, -⟩ := alloc_ob L4.out.hi 50 (List.replicate 64 (.int .i64 0)).toArray 85 w4.heap.size rfl
        have e6 := Ext.row (S := fun t => t = 50) R0 e5.hi x5.o (show (50 : Nat) ≠ 0 by decide) rfl
        have h7 := setRow_heap _ w4.heap.size _ R0 _ _ (heap_alloc_new w4 (.cells (List.replicate 64 (.int .i64 0)).toArray 85))
        generalize hW5 : World.setRow (World.alloc w4 _) _ R0 = W5
        have hW6 : (w4.alloc (.cells (List.replicate 64 (.int .i64 0)).toArray 85)).setRow w4.heap.size R0 = W5 := hW5
        clear hW5
        rw [hW6] at e6 h7
        clear hW6
        obtain ⟨X7, hX7⟩ : ∃ X7, X7 = w4.heap.size := ⟨_, rfl⟩
        have e56 := e5.trans e6
        have K5 : Hid (Bk W5 G5 50 X7 85 (ir .i64 (stC b s3.M A) 64)) := Lib.hid ⟨by rw [hX7]; exact x5.o, by rw [hX7, h7, HR0.out]⟩
        have L5 := Lib.hid (L4.out.ext e56 (by decide) (by decide) (by decide) (by decide))
        have Q5 : Hid (G5 Q = 0 ∧ Q < W5.heap.size ∧ W5.cell? ⟨Q, 3, none⟩ = some (.string F.ky)) := Lib.hid ⟨(e56.lo Q Q4.out.2.1).trans Q4.out.1, Nat.lt_of_lt_of_le Q4.out.2.1 e56.size, (e56.cell (p := ⟨Q, 3, none⟩) Q4.out.2.1 (by rw [Q4.out.1]; decide)).trans Q4.out.2.2⟩
        rw [← hX7]
        clear hX7 e5 e6 e56 x5 h7 L4 Q4 HV0 hR0s hR0a
        have p0 := L5.out.p.wo.c0
        have HPK := Lib.hid (L5.out.peek 2 (by decide) (by decide) W5 (Below.refl _ _))
        rw [HWD.out] at HPK
        have HAS := c_As b W5 (by omega) (by omega)
        rw [plOld_one hbi.1 (by omega), plNow_one hbi.1 (by omega)] at HAS
        have HAS := Lib.hid HAS
        go_wp2_with fail
        refine HPK.out.mono ?_
        rintro e w' ⟨rfl, rfl⟩
        go_wp2_with fail
        refine HAS.out.mono ?_
        rintro e w' ⟨rfl, rfl⟩
        clear HPK HAS p0
        have HHS := Lib.hid (c_Hash F.ky W5 hkz)
        have hhb := fnvHash_bd F.ky.data.toList
        obtain ⟨h, hh⟩ : ∃ h, h = fnvHash F.ky.data.toList := ⟨_, rfl⟩
        rw [← hh] at HHS hhb
        have y3 := Q5.out.2.2
        clear hh Q5
        go_wp2_with fail
        refine HHS.out.mono ?_
        rintro e w6 ⟨rfl, hw6⟩
        have hb6 : Below W5.heap.size W5 w6 := by rw [← hw6]; exact (Below.refl _ _).alloc (Nat.le_refl _) _
        have L6 := Lib.hid (L5.out.below hb6)
        have K6 := Lib.hid (K5.out.below hb6)
        obtain ⟨a, ha⟩ : ∃ a, a = fnvBucket h b := ⟨_, rfl⟩
        obtain ⟨o, ho⟩ : ∃ o, o = fnvOther a (fnvTag h) b := ⟨_, rfl⟩
        have VB := Lib.hid (VcB.mk hbi.1 hbi.2 ha ho)
        have HOW := Lib.hid (fun W => c_own b h a o W hbi.1 (by omega) hhb.1 hhb.2 ha ho)
        clear ha ho HHS L5 K5 hw6 hb6 y3
        go_wp2_with fail
        refine (HOW.out w6).mono ?_
        rintro e w7 ⟨g4, c4, rfl, hg4, hA4, hb7⟩
        have L7 := Lib.hid (L6.out.below hb7)
        have K7 := Lib.hid (K6.out.below hb7)
        have hNN := vcN_le a o
        have hOA := OwA.of (G := G5) hA4 (by
          by_cases q : G5 g4 = 0
          · exact q
          · exact absurd (L6.out.hi _ q) (by omega))
        obtain ⟨N, hN⟩ : ∃ N, N = vcN a o := ⟨_, rfl⟩
        rw [← hN] at hA4 hNN hOA ⊢
        obtain ⟨ao, c5, he5, hc4, hm4⟩ := hA4.shape
        cases he5
        have OA := Lib.hid hOA
        have HNE := Lib.hid hN
        have hNx : N ≤ 9223372036854775807 := by omega
        have HMR := Lib.hid (c_marks L7.out)
        clear hA4 hN L6 K6 HOW hb7 hg4 hOA
        go_wp2_with fail
        refine HMR.out.mono ?_
        rintro e w8 ⟨rfl, hb8⟩
        have L8 := Lib.hid (L7.out.below hb8)
        have K8 := Lib.hid (K7.out.below hb8)
        have O8 := Lib.hid (OA.out.below hb8)
        obtain ⟨R1, hR1⟩ : ∃ R1, R1 = (ir .u64 (mkI s3.M) 64).toArray := ⟨_, rfl⟩
        have hR1s : R1.size = 64 := by rw [hR1]; exact ir_size _ _ _
        have hR1a : R1.all (·.oneCell') = true := by rw [hR1]; exact ir_all _ _ _
        rw [← hR1]
        have HR1 := Lib.hid hR1
        obtain ⟨V1, hV1⟩ : ∃ V1, V1 = Value.agg R1 := ⟨_, rfl⟩
        rw [← hV1]
        have HV1 := Lib.hid hV1
        clear hR1 hb8 HMR L7 K7 OA hV1
        go_upto_region 18 with (first
          | (refine wpList_store_row rfl 36 _ _ rfl w8.heap.size R1 rfl HV1.out 36 _ (heap_alloc_new _ _) (by rw [hR1s]; kernel_rfl) (by rw [hR1s]; rfl) hR1a ?_))
        obtain ⟨G9, e5, x5, -⟩ := alloc_ob L8.out.hi 51 (List.replicate 64 (.int .u64 0)).toArray 36 w8.heap.size rfl
        have e6 := Ext.row (S := fun t => t = 51) R1 e5.hi x5.o (show (51 : Nat) ≠ 0 by decide) rfl
        have h7 := setRow_heap _ w8.heap.size _ R1 _ _ (heap_alloc_new w8 (.cells (List.replicate 64 (.int .u64 0)).toArray 36))
        generalize hW5 : World.setRow (World.alloc w8 _) _ R1 = W9
        have hW6 : (w8.alloc (.cells (List.replicate 64 (.int .u64 0)).toArray 36)).setRow w8.heap.size R1 = W9 := hW5
        clear hW5
        rw [hW6] at e6 h7
        clear hW6
        obtain ⟨X13, hX13⟩ : ∃ X13, X13 = w8.heap.size := ⟨_, rfl⟩
        have e56 := e5.trans e6
        have S9 : Hid (Bk W9 G9 51 X13 36 (ir .u64 (mkI s3.M) 64)) := Lib.hid ⟨by rw [hX13]; exact x5.o, by rw [hX13, h7, HR1.out]⟩
        have L9 := Lib.hid (L8.out.ext e56 (by decide) (by decide) (by decide) (by decide))
        have K9 := Lib.hid (K8.out.ext e56 (by decide))
        have O9 := Lib.hid (O8.out.ext e56 (by decide))
        rw [← hX13]
        clear hX13 e5 e6 e56 x5 h7 L8 K8 O8 HV1 hR1s hR1a
        have VO := Lib.hid (VoB.of FS.out hks VB.out hhb.1 hhb.2 V3.out)
        go_loopw [14, 15, 16] (fun wv rv iv W => ∃ i k : Nat, iv = .int .i64 i ∧ LW w W G9 B ⟨b, 8, 3, 1, 16⟩ s3 ∧ Bk W G9 50 X7 85 (ir .i64 (stC b s3.M A) 64) ∧ OwA W G9 g4 N b a o ∧ Bk W G9 51 X13 36 (ir .u64 (mkI (vcM b a o s3.M k)) 64) ∧ VoS b a o s3.M k ∧
          ((k = i ∧ i ≤ N ∧ wv = .int .i64 (-1) ∧ rv = .int .u64 0) ∨ (i = k + 1 ∧ k < N ∧ wv = .int .i64 k ∧ rv = .int .u64 (vcI b a o s3.M k) ∧ (vcI b a o s3.M k = 0 ∨ (1 ≤ vcI b a o s3.M k ∧ s3.M (plRef (vcI b a o s3.M k)) % 2 = 0))))) (fun _ _ iv _ => N - (intOf iv).toNat)
        case atStart => exact ⟨0, 0, rfl, L9.out, K9.out, O9.out, S9.out, fun j hj => by omega, .inl ⟨rfl, Nat.zero_le _, rfl, rfl⟩⟩
        case round =>
          clear L9 K9 O9 S9
          obtain ⟨i, k, rfl, hL, hK, hO, hS, hV, hC⟩ := hrel
          have L9 := Lib.hid hL
          have K9 := Lib.hid hK
          have O9 := Lib.hid hO
          have S9 := Lib.hid hS
          have VS := Lib.hid hV
          clear hL hK hO hS hV
          rcases hC with ⟨rfl, hi, rfl, rfl⟩ | ⟨rfl, hkN, rfl, rfl, hC⟩
          · by_cases hi2 : k < N
            · obtain ⟨c0, c1, c2⟩ := O9.out.c k hi2
              obtain ⟨p, hp⟩ : ∃ p, p = vcP b a o k := ⟨_, rfl⟩
              rw [← hp] at c0 c1 c2
              have hpo : p.ok := by rw [hp]; exact VO.out.ok k (by omega)
              obtain ⟨it, hie⟩ : ∃ it, it = vcI b a o s3.M k := ⟨_, rfl⟩
              have hie2 : it = s3.M p.item := by rw [hie, hp]; rfl
              have hit := VO.out.bd k (by rw [← HNE.out]; exact hi2)
              rw [← hie] at hit
              have HS := c_Slot p L9.out.p hpo L9.out.hi
              rw [← hie2] at HS
              have HS := Lib.hid HS
              have HIE := Lib.hid hie
              have hib0 : (0 : Int) ≤ (k : Int) := by omega
              have hib1 : (k : Int) < (N : Int) := by omega
              clear hp hpo hie hie2
              go_wp2_with fail
              refine HS.out.mono ?_
              rintro e w10 ⟨rfl, hb10⟩
              have L10 := Lib.hid (L9.out.below hb10)
              have K10 := Lib.hid (K9.out.below hb10)
              have O10 := Lib.hid (O9.out.below hb10)
              have S10 := Lib.hid (S9.out.below hb10)
              clear hb10 HS c0 c1 c2 L9 K9 O9 S9
              have d63 : decide ((63 : Int) < it) = false := decide_eq_false (by omega)
              by_cases hz : it = 0
              · have e1 : (it == 0) = true := by simp [hz]
                go_wp2_with fail
                go_roundw
                case rel => exact ⟨k + 1, k, by go_num, L10.out, K10.out, O10.out, S10.out, VS.out, .inr ⟨rfl, hi2, rfl, by rw [← HIE.out, hz], .inl (by rw [← HIE.out]; exact hz)⟩⟩
                case measure => simp [intOf]; omega
              · have e1 : (it == 0) = false := by simp [hz]
                obtain ⟨itn, hin⟩ : ∃ itn : Nat, (itn : Int) = it := ⟨it.toNat, by omega⟩
                have hin64 : itn < 64 := by omega
                have hi0 : itn ≠ 0 := by omega
                have a0 := cell_of_blk (j := itn) S10.out.h (ir64_get hin64)
                have f0 := froz_of_blk itn S10.out.h
                obtain ⟨mv, hmv⟩ : ∃ mv, mv = s3.M (plRef it) := ⟨_, rfl⟩
                have hmv2 : mkI (vcM b a o s3.M k) itn = mv := by
                  rw [mkI_at (by omega), hin, HIE.out, VO.out.at (by rw [← HNE.out]; exact hi2) VS.out (by rw [← HIE.out]; omega), ← HIE.out, hmv]
                rw [hmv2] at a0
                have hmb : 0 ≤ mv ∧ mv ≤ 20 := by
                  rcases V3.out.mq it (by omega) with q | q
                  · rw [hmv, q]; decide
                  · rw [hmv]; omega
                have HMV := Lib.hid hmv
                have HM2 := Lib.hid hmv2
                rw [← hin]
                have HIN := Lib.hid hin
                have hnb0 : (0 : Int) ≤ (itn : Int) := by omega
                have hnb1 : (itn : Int) < 64 := by omega
                have e1 : ((itn : Int) == 0) = false := by rw [hin]; exact e1
                have d63 : decide ((63 : Int) < (itn : Int)) = false := by rw [hin]; exact d63
                have HMK := c_Marked24 mv w10 hmb.1 (by omega)
                clear hmv hmv2 hin
                by_cases hmo : mv % 2 = 1
                · have hrm : rfMarked mv = true := decide_eq_true hmo
                  rw [hrm] at HMK
                  have HMK := Lib.hid HMK
                  have HLS := Lib.hid (c_Less24 mv w10 hmb.1 (by omega))
                  have hpos := plRef_bd (r := it) (by omega)
                  have S11 : Hid (Bk (w10.setCell ⟨X13, itn, none⟩ (.int .u64 (rfLess mv))) G9 51 X13 36 (ir .u64 (mkI (vcM b a o s3.M (k + 1))) 64)) := Lib.hid ⟨S10.out.o, by
                    rw [blk_set S10.out.h, ir64_put hin64 (J := mkI (vcM b a o s3.M (k + 1))) (by
                      rw [mkI_at hi0, vcM_s, HIN.out, HIE.out, upd_same, ← HIE.out, ← HM2.out, mkI_at hi0, HIN.out]) (fun j hj hne => by
                      by_cases hj0 : j = 0
                      · subst hj0; rfl
                      · rw [mkI_at hj0, mkI_at hj0, vcM_s, upd_other _ (fun q => hne (by
                          have := plRef_inj (by omega) (by rw [← HIE.out]; omega) q
                          rw [← HIE.out] at this; have := HIN.out; omega))])]⟩
                  have e11 : Ext (fun t => t = 51) G9 w10 G9 (w10.setCell ⟨X13, itn, none⟩ (.int .u64 (rfLess mv))) := Ext.of_set (S := fun t => t = 51) L10.out.hi S10.out.o (show (51 : Nat) ≠ 0 by decide) rfl
                  have L11 := Lib.hid (L10.out.ext e11 (by decide) (by decide) (by decide) (by decide))
                  have K11 := Lib.hid (K10.out.ext e11 (by decide))
                  have O11 := Lib.hid (O10.out.ext e11 (by decide))
                  have VS2 := Lib.hid (VS.out.more (by rw [← HIE.out]; omega) (by rw [← HIE.out, ← HMV.out]; exact hmo))
                  clear e11 hrm hmo
                  go_wp2_with fail
                  refine HMK.out.mono ?_
                  rintro e w' ⟨rfl, rfl⟩
                  go_wp2_with fail
                  refine HLS.out.mono ?_
                  rintro e w' ⟨rfl, rfl⟩
                  go_wp2_with fail
                  go_roundw
                  case rel => exact ⟨k + 1, k + 1, by go_num, L11.out, K11.out, O11.out, S11.out, VS2.out, .inl ⟨rfl, by omega, rfl, rfl⟩⟩
                  case measure => simp [intOf]; omega
                · have hrm : rfMarked mv = false := decide_eq_false hmo
                  rw [hrm] at HMK
                  have HMK := Lib.hid HMK
                  clear hrm
                  go_wp2_with fail
                  refine HMK.out.mono ?_
                  rintro e w' ⟨rfl, rfl⟩
                  go_wp2_with fail
                  go_roundw
                  case rel => exact ⟨k + 1, k, by go_num, L10.out, K10.out, O10.out, S10.out, VS.out, .inr ⟨rfl, hi2, rfl, by rw [HIN.out, HIE.out], .inr ⟨by rw [← HIE.out]; omega, by rw [← HIE.out, ← HMV.out]; omega⟩⟩⟩
                  case measure => simp [intOf]; omega
            · have hkN : k = N := by omega
              subst hkN
              have C6 : Hid (s3.M 6 = 0) := Lib.hid ((V3.out.lo 6 (by decide)).trans (FS.out.fil.oth 6 (by decide) (Or.inl (by have := fnvSize_bd b; omega))))
              go_upto_region 27 with fail
              obtain ⟨cz, y, z, hOUT, hynt, hylo, hyM⟩ := VoR.fail (A := A) FS.out hks VB.out hhb.1 hhb.2 V3.out (by rw [← HNE.out]; exact VS.out)
              obtain ⟨c2, u, z2, r2, g2, n2⟩ := VoR.again FS.out hks VB.out hhb.1 hhb.2 V3.out (by rw [← HNE.out]; exact VS.out) hylo hyM hynt
              rw [← HNE.out] at hOUT
              obtain ⟨p, hp⟩ : ∃ p : Spt, p = ⟨0, 0, 0⟩ := ⟨_, rfl⟩
              rw [← hp] at hOUT
              have OUT := Lib.hid hOUT
              have YNT := Lib.hid hynt
              have YLO := Lib.hid hylo
              have RA2 := Lib.hid r2
              have GO2 := Lib.hid g2
              have NU2 := Lib.hid n2
              clear hOUT hynt hylo hp hyM r2 g2 n2
              have p0 := L9.out.p.wo.c0
              have HPK6 := L9.out.peek 6 (by decide) (by decide) wr (Below.refl _ _)
              rw [C6.out] at HPK6
              have HPK6 := Lib.hid HPK6
              have HNV := Lib.hid (c_NewVictim (w := wr) (O := G9) (k := 20) b h (by omega) (by omega) hhb.1 hhb.2 (by decide) L9.out.hi)
              go_wp2_with fail
              refine HPK6.out.mono ?_
              rintro e w' ⟨rfl, rfl⟩
              clear HPK6
              go_wp2_with fail
              refine HNV.out.mono ?_
              rintro e w10 ⟨X, rfl, G10, e10, x10⟩
              have L10 := L9.out.ext e10 (by omega) (by omega) (by omega) (by omega)
              have K10 := Lib.hid (K9.out.ext e10 (by omega))
              have O10 := Lib.hid (O9.out.ext e10 (by omega))
              have S10 := Lib.hid (S9.out.ext e10 (by omega))
              have HRv := c_VcRun (k := 20) X (vcNew b h) 99 L10.p x10 (vcNew_ok b h hhb.1 hhb.2) (by decide) L10.hi V3.out.n0 (by have := V3.out.n1; omega)
              rw [OUT.out.run] at HRv
              dsimp only at HRv
              have HRv := Lib.hid HRv
              have L10 := Lib.hid L10
              clear e10 x10 HNV L9 K9 O9 S9 p0
              go_wp2_with fail
              refine HRv.out.mono ?_
              rintro e w11 ⟨rfl, G11, e11, P11, x11, k11⟩
              have L11 := Lib.hid (L10.out.to e11 P11)
              have K11 := Lib.hid (K10.out.ext e11 (by intro q; rcases q with q | q <;> omega))
              have O11 := Lib.hid (O10.out.ext e11 (sx0 (by decide)))
              have S11 := Lib.hid (S10.out.ext e11 (by intro q; rcases q with q | q <;> omega))
              have HG := c_VcGot x11
              rw [OUT.out.got] at HG
              unfold sptV at HG
              dsimp only at HG
              have HG := Lib.hid HG
              have X11 := Lib.hid x11
              have KZ := Lib.hid k11
              clear e11 P11 x11 k11 HRv L10 K10 O10 S10
              go_wp2_with fail
              refine HG.out.mono ?_
              rintro e w12 ⟨rfl, hb12⟩
              have hba := (Below.refl w12.heap.size w12).alloc (Nat.le_refl _) (.cells #[.int .i64 p.b, .int .i64 p.q, .int .i64 p.s] 45)
              have B13 : Hid (Below w11.heap.size w11 (w12.alloc (.cells #[.int .i64 p.b, .int .i64 p.q, .int .i64 p.s] 45))) := Lib.hid (hb12.trans (hba.mono hb12.size))
              obtain ⟨-, V13⟩ := alloc_nbH (S := SW) (L11.out.below hb12).hi #[.int .i64 p.b, .int .i64 p.q, .int .i64 p.s] 45 w12.heap.size rfl
              have V13 := Lib.hid V13
              clear hb12 hba HG
              go_upto_region 31 with fail
              obtain ⟨w13, hw13⟩ : ∃ W, W = w12.alloc (.cells #[.int .i64 p.b, .int .i64 p.q, .int .i64 p.s] 45) := ⟨_, rfl⟩
              rw [← hw13] at B13 V13 ⊢
              clear hw13
              obtain ⟨X21, hX21⟩ : ∃ X, X = w12.heap.size := ⟨_, rfl⟩
              rw [← hX21] at V13 ⊢
              clear hX21
              have L13 := Lib.hid (L11.out.below B13.out)
              have HST := Lib.hid (c_Stand (A := A) L13.out (by omega) (by omega) OUT.out.wd HA.out (by omega) (OUT.out.it.trans (V3.out.it.trans FS.out.it)) hks HKS.out OUT.out.st)
              go_wp2_with fail
              refine HST.out.mono ?_
              rintro e w14 ⟨rfl, hb14⟩
              have B14 : Hid (Below w11.heap.size w11 w14) := Lib.hid (B13.out.trans (hb14.mono B13.out.size))
              have V14 := Lib.hid (V13.out.below hb14)
              obtain ⟨R2, hR2⟩ : ∃ R2, R2 = (ir .i64 (stC b y.M A) 64).toArray := ⟨_, rfl⟩
              have hR2s : R2.size = 64 := by rw [hR2]; exact ir_size _ _ _
              have hR2a : R2.all (·.oneCell') = true := by rw [hR2]; exact ir_all _ _ _
              rw [← hR2]
              have HR2 := Lib.hid hR2
              obtain ⟨V2, hV2⟩ : ∃ V2, V2 = Value.agg R2 := ⟨_, rfl⟩
              rw [← hV2]
              have HV2 := Lib.hid hV2
              clear hR2 hb14 HST hV2 L13 V13 B13
              go_upto_region 32 with (first
                | (refine wpList_store_row rfl 85 _ _ rfl w14.heap.size R2 rfl HV2.out 85 _ (heap_alloc_new _ _) (by rw [hR2s]; kernel_rfl) (by rw [hR2s]; rfl) hR2a ?_))
              have h7 := setRow_heap _ w14.heap.size _ R2 _ _ (heap_alloc_new w14 (.cells (List.replicate 64 (.int .i64 0)).toArray 85))
              have hbr := below_setRow ((Below.refl w14.heap.size w14).alloc (Nat.le_refl _) (.cells (List.replicate 64 (.int .i64 0)).toArray 85)) (Nat.le_refl w14.heap.size) R2
              generalize hW5 : World.setRow (World.alloc w14 _) _ R2 = w15
              have hW6 : (w14.alloc (.cells (List.replicate 64 (.int .i64 0)).toArray 85)).setRow w14.heap.size R2 = w15 := hW5
              clear hW5
              rw [hW6] at h7 hbr
              clear hW6
              obtain ⟨X23, hX23⟩ : ∃ X, X = w14.heap.size := ⟨_, rfl⟩
              have B15 : Hid (Below w11.heap.size w11 w15) := Lib.hid (B14.out.trans (hbr.mono B14.out.size))
              have hx723 : X7 ≠ X23 := by have := K11.out.lt; have := B14.out.size; omega
              have hx715 : X7 < w15.heap.size := Nat.lt_of_lt_of_le K11.out.lt B15.out.size
              have H23 : Hid (w15.heap[X23]? = some (.cells (ir .i64 (stC b y.M A) 64).toArray 85 (0, 0))) := Lib.hid (by rw [hX23, h7, HR2.out])
              have V15 := Lib.hid (V14.out.below hbr)
              have GX23 : Hid (G11 X23 = 0) := Lib.hid (Classical.byContradiction fun q => by
                have hq1 := L11.out.hi X23 q
                have hq2 := B14.out.size
                omega)
              rw [← hX23]
              clear hX23 h7 hbr HV2 hR2s hR2a V14 B14
              have L15 := Lib.hid (L11.out.below B15.out)
              obtain ⟨vn, hn, -⟩ := L15.out.p.no.ex
              obtain ⟨an, cn, rfl, -, -⟩ := (Arr.of_own hn.own).shape
              have HAL := Lib.hid (c_NtAll B.np _ y.nt w15 hn.head hn.lt (Arr.of_own hn.own) (by have := OUT.out.nl; omega))
              have p2 := L15.out.p.wo.c2
              clear hn
              go_wp2_with fail
              refine HAL.out.mono ?_
              rintro e w16 ⟨⟨v', rfl, hnn⟩, hb16⟩
              have B16 : Hid (Below w11.heap.size w11 w16) := Lib.hid (B15.out.trans (hb16.mono B15.out.size))
              have V16 := Lib.hid (V15.out.below hb16)
              have H23b : Hid (Bk w16 (fun _ => 0) 0 X23 85 (ir .i64 (stC b y.M A) 64)) := Lib.hid (Bk.below (W := w15) ⟨rfl, H23.out⟩ hb16)
              obtain ⟨ao, rfl⟩ := hnn.shape
              have NN := Lib.hid hnn.arr
              have NFR := Lib.hid hnn.fresh
              clear hb16 hnn HAL p2 L15 V15 H23 B15
              have L16 := Lib.hid (L11.out.below B16.out)
              have K16 := Lib.hid (K11.out.below B16.out)
              have O16 := Lib.hid (O11.out.below B16.out)
              have S16 := Lib.hid (S11.out.below B16.out)
              have X16 := Lib.hid (X11.out.below L11.out.hi B16.out)
              clear L11 K11 O11 S11 X11 B16
              go_upto_region 33 with fail
              obtain ⟨RS, hRS⟩ : ∃ RS, RS = (ir .u64 (mkI (vcM b a o s3.M k)) 64).toArray := ⟨_, rfl⟩
              have hmr : (ir .u64 (mkI y.M) 64).toArray = RS := by rw [hRS, ir64_congr OUT.out.mi]
              have eqS : ∀ W, (Op.equalIn 10000 36 (.agg RS) (.agg RS)).run Tryz.prog W = .ok true W := fun W => by rw [hRS]; exact eq_ir64u _ W
              have ldS : ∀ e : Later w16, (ld64 ⟨X13, 0, none⟩).run Tryz.prog (via w16 e) = .ok RS (via w16 e) := fun e => by rw [hRS]; exact (S16.out.below (via_below w16 e)).ld (ir_len _ _ _)
              have HMS : Hid (∀ e : Later w16, Calls Tryz.prog 44 #[.pointer (some ⟨B.p, 0, none⟩)] (via w16 e) fun e_1 w' => e_1 = .returned (.agg RS) ∧ Below (via w16 e).heap.size (via w16 e) w') := Lib.hid fun e => by rw [← hmr]; exact c_marks (L16.out.below (via_below w16 e))
              have HOD : Hid (∀ e : Later w16, Calls Tryz.prog 48 #[.pointer (some ⟨B.p, 0, none⟩)] (via w16 e) fun e_1 w' => e_1 = .returned (.int .i64 0) ∧ Below (via w16 e).heap.size (via w16 e) w') := Lib.hid fun e => c_Odds (L16.out.below (via_below w16 e)) OUT.out.od
              have HOV : Hid (∀ e : Later w16, Calls Tryz.prog 47 #[.pointer (some ⟨X, 0, none⟩)] (via w16 e) fun e_1 w' => e_1 = .returned (.bool true) ∧ via w16 e = w') := Lib.hid fun e => by
                have h := c_VcOver (X16.out.below L16.out.hi (via_below w16 e)) KZ.out
                rw [OUT.out.ov] at h
                exact h
              have hl13 := S16.out.lt
              clear hRS hmr
              refine wp_region_via (by kernel_rfl) (by kernel_rfl) ?_
              repeat (go_big_quiet_step ((first
                | (go_at_call 47; exact viaS (HOV.out _))
                | (go_at_call 44; exact viaB (HMS.out _))
                | (go_at_call 48; exact viaB (HOD.out _)))))
              refine wpQuiet_nil ?_
              rintro _ ⟨e, rfl⟩
              obtain ⟨Wv, hWv⟩ : ∃ Wv, Wv = via w16 e := ⟨_, rfl⟩
              have hbv : Below w16.heap.size w16 Wv := by rw [hWv]; exact via_below w16 e
              rw [← hWv]
              have L17 := Lib.hid (L16.out.below hbv)
              have K17 := Lib.hid (K16.out.below hbv)
              have O17 := Lib.hid (O16.out.below hbv)
              have V17 := Lib.hid (V16.out.below hbv)
              have H17 := Lib.hid (H23b.out.below hbv)
              have N17 := Lib.hid (NN.out.below hbv)
              clear hWv hbv eqS ldS HMS HOD HOV hl13 L16 K16 O16 S16 X16 V16 H23b NN
              have H17 : Hid (Bk Wv G11 0 X23 85 (ir .i64 (stC b y.M A) 64)) := Lib.hid ⟨GX23.out, H17.out.h⟩
              have HNV2 := Lib.hid (c_NewVictim (w := Wv) (O := G11) (k := 60) b h (by omega) (by omega) hhb.1 hhb.2 (by decide) L17.out.hi)
              go_wp2_with fail
              refine HNV2.out.mono ?_
              rintro e w20 ⟨Xb, rfl, G12, e12, x12⟩
              have L20 := L17.out.ext e12 (by omega) (by omega) (by omega) (by omega)
              have K20 := Lib.hid (K17.out.ext e12 (by omega))
              have O20 := Lib.hid (O17.out.ext e12 (by omega))
              have H20 := Lib.hid (H17.out.ext e12 (by omega))
              have hyn := vcRun_n OUT.out.run
              have HRv2 := c_VcRun (k := 60) Xb (vcNew b h) 99 L20.p x12 (vcNew_ok b h hhb.1 hhb.2) (by decide) L20.hi (by have := V3.out.n0; omega) (by have := V3.out.n1; omega)
              rw [RA2.out] at HRv2
              dsimp only at HRv2
              have HRv2 := Lib.hid HRv2
              have L20 := Lib.hid L20
              clear e12 x12 HNV2 L17 K17 O17 H17 V17 N17 hyn
              go_wp2_with fail
              refine HRv2.out.mono ?_
              rintro e w21 ⟨rfl, G13, e13, P13, x13, -⟩
              have L21 := Lib.hid (L20.out.to e13 P13)
              have K21 := Lib.hid (K20.out.ext e13 (by intro q; rcases q with q | q <;> omega))
              have O21 := Lib.hid (O20.out.ext e13 (sx0 (by decide)))
              have H21 := Lib.hid (H20.out.ext e13 (by intro q; rcases q with q | q <;> omega))
              have HG2 := c_VcGot x13
              rw [GO2.out] at HG2
              unfold sptV at HG2
              dsimp only at HG2
              have HG2 := Lib.hid HG2
              clear e13 P13 x13 HRv2 L20 K20 O20 H20
              go_wp2_with fail
              refine HG2.out.mono ?_
              rintro e w22 ⟨rfl, hb22⟩
              have L22 := Lib.hid (L21.out.below hb22)
              have K22 := Lib.hid (K21.out.below hb22)
              have O22 := Lib.hid (O21.out.below hb22)
              have H22 := Lib.hid (H21.out.below hb22)
              clear hb22 HG2 L21 K21 O21 H21
              obtain ⟨q0, hq0⟩ : ∃ q0, q0 = vcP b a o 0 := ⟨_, rfl⟩
              rw [← hq0]
              have HQ0 := Lib.hid hq0
              clear hq0
              have B23 := Lib.hid ((Below.refl w22.heap.size w22).alloc (Nat.le_refl _) (.cells #[.int .i64 q0.b, .int .i64 q0.q, .int .i64 q0.s] 45))
              obtain ⟨-, V23⟩ := alloc_nbH (S := SW) L22.out.hi #[.int .i64 q0.b, .int .i64 q0.q, .int .i64 q0.s] 45 w22.heap.size rfl
              have V23 := Lib.hid V23
              go_upto_region 39 with fail
              obtain ⟨w23, hw23⟩ : ∃ W, W = w22.alloc (.cells #[.int .i64 q0.b, .int .i64 q0.q, .int .i64 q0.s] 45) := ⟨_, rfl⟩
              rw [← hw23] at B23 V23 ⊢
              clear hw23
              obtain ⟨X27, hX27⟩ : ∃ X, X = w22.heap.size := ⟨_, rfl⟩
              rw [← hX27] at V23 ⊢
              clear hX27
              have L23 := Lib.hid (L22.out.below B23.out)
              have K23 := Lib.hid (K22.out.below B23.out)
              have O23 := Lib.hid (O22.out.below B23.out)
              have H23 := Lib.hid (H22.out.below B23.out)
              clear L22 K22 O22 H22 B23
              obtain ⟨c0, c1, c2'⟩ := O23.out.c 0 (by have := vcN_le a o; have := HNE.out; omega)
              rw [← HQ0.out] at c0 c1 c2'
              have v0 := V23.out.c 0 _ rfl
              have v1 := V23.out.c 1 _ rfl
              have v2 := V23.out.c 2 _ rfl
              have hlv := V23.out.lt
              obtain ⟨RT, hRT⟩ : ∃ RT, RT = (ir .i64 (stC b s3.M A) 64).toArray := ⟨_, rfl⟩
              have hrow : (ir .i64 (stC b y.M A) 64).toArray = RT := by rw [hRT, ir64_congr (J := stC b s3.M A) (fun j hj => stC_same (fun i hi => YLO.out _ (by have := (plAt_ok b i).item; omega)) j)]
              have eqT : ∀ W, (Op.equalIn 10000 85 (.agg RT) (.agg RT)).run Tryz.prog W = .ok true W := fun W => by rw [hRT]; exact eq_ir64i _ W
              have ld7 : ∀ e : Later w23, (ld64 ⟨X7, 0, none⟩).run Tryz.prog (via w23 e) = .ok RT (via w23 e) := fun e => by rw [hRT]; exact (K23.out.below (via_below w23 e)).ld (ir_len _ _ _)
              have ld23 : ∀ e : Later w23, (ld64 ⟨X23, 0, none⟩).run Tryz.prog (via w23 e) = .ok RT (via w23 e) := fun e => by rw [← hrow]; exact (H23.out.below (via_below w23 e)).ld (ir_len _ _ _)
              have dl : ((y.nt.length : Int) == 0) = true := by rw [YNT.out]; rfl
              have HCN : Hid (∀ e : Later w23, Calls Tryz.prog 24 #[.pointer (some ⟨B.np, 0, none⟩)] (via w23 e) fun e_1 w' => e_1 = .returned (.int .i64 1) ∧ via w23 e = w') := Lib.hid fun e => by
                obtain ⟨vn, hn, -⟩ := (L23.out.below (via_below w23 e)).p.no.ex
                obtain ⟨an', cn', rfl, -, -⟩ := (Arr.of_own hn.own).shape
                have h := c_NCountL B.np an' _ cn' _ hn.head
                rw [NU2.out] at h
                exact h
              have p2 := L23.out.p.wo.c2
              have hlp := L23.out.p.wo.lt
              have hlo := O23.out.lt
              have hl7 := K23.out.lt
              have hl23 := H23.out.lt
              have hk4 : (0 : Int) < (k : Int) := by have h1 := vcN_le a o; have h2 := HNE.out; omega
              clear hRT hrow
              refine wp_region_via (by kernel_rfl) (by kernel_rfl) ?_
              repeat (go_big_quiet_step ((first
                | (go_at_call 24; exact viaS (HCN.out _))
                | (go_at_call 34; exact viaB (c_lives24 _)))))
              
              refine wpQuiet_nil ?_
              rintro _ ⟨e, rfl⟩
              go_wp2_with fail
              go_ret
              exact ⟨rfl, L23.out.bel.trans ((via_below w23 e).mono L23.out.bel.size)⟩
          · have C6 : Hid (s3.M 6 = 0) := Lib.hid ((V3.out.lo 6 (by decide)).trans (FS.out.fil.oth 6 (by decide) (Or.inl (by have := fnvSize_bd b; omega))))
            by_cases hiN : k + 1 < N
            · have di : decide ((((k + 1 : Nat) : Int)) < (N : Int)) = true := decide_eq_true (by omega)
              have dk : decide ((k : Int) < 0) = false := decide_eq_false (by omega)
              go_upto_region 27 with fail
              rcases hC with hz | ⟨hz1, hz2⟩
              · obtain ⟨cz, y, z, hOUT, hynt, hylo⟩ := VoR.free (A := A) FS.out hks VB.out hhb.1 hhb.2 V3.out (by rw [← HNE.out]; exact hkN) VS.out hz
                obtain ⟨p, hp⟩ : ∃ p, p = vcP b a o k := ⟨_, rfl⟩
                rw [← hp] at hOUT
                have hpo : p.ok := by rw [hp]; exact VO.out.ok k (by omega)
                have OUT := Lib.hid hOUT
                have YNT := Lib.hid hynt
                have YLO := Lib.hid hylo
                have HPE := Lib.hid hp
                have HPO := Lib.hid hpo
                have TG : Hid (twTag (y.M p.tags) p.s = 0 ∧ y.M p.item = 0) := Lib.hid (by
                  have hq1 := hpo.tags
                  have hq2 := hpo.item
                  have hi : s3.M p.item = 0 := by rw [hp]; exact hz
                  rw [hylo _ (by omega), hylo _ (by omega), V3.out.lo _ (by omega), V3.out.lo _ (by omega)]
                  rw [V3.out.lo _ (by omega)] at hi
                  exact ⟨(FS.out.fil.free hpo (by rw [hp]; exact vcP_b _ _ _ _)).2 hi, hi⟩)
                clear hOUT hynt hylo hp hpo
                have p0 := L9.out.p.wo.c0
                have HPK6 := L9.out.peek 6 (by decide) (by decide) wr (Below.refl _ _)
                rw [C6.out] at HPK6
                have HPK6 := Lib.hid HPK6
                have HNV := Lib.hid (c_NewVictim (w := wr) (O := G9) (k := 20) b h (by omega) (by omega) hhb.1 hhb.2 (by decide) L9.out.hi)
                go_wp2_with fail
                refine HPK6.out.mono ?_
                rintro e w' ⟨rfl, rfl⟩
                clear HPK6
                go_wp2_with fail
                refine HNV.out.mono ?_
                rintro e w10 ⟨X, rfl, G10, e10, x10⟩
                have L10 := L9.out.ext e10 (by omega) (by omega) (by omega) (by omega)
                have K10 := Lib.hid (K9.out.ext e10 (by omega))
                have O10 := Lib.hid (O9.out.ext e10 (by omega))
                have S10 := Lib.hid (S9.out.ext e10 (by omega))
                have HRv := c_VcRun (k := 20) X (vcNew b h) 99 L10.p x10 (vcNew_ok b h hhb.1 hhb.2) (by decide) L10.hi V3.out.n0 (by have := V3.out.n1; omega)
                rw [OUT.out.run] at HRv
                dsimp only at HRv
                have HRv := Lib.hid HRv
                have L10 := Lib.hid L10
                clear e10 x10 HNV L9 K9 O9 S9 p0
                go_wp2_with fail
                refine HRv.out.mono ?_
                rintro e w11 ⟨rfl, G11, e11, P11, x11, k11⟩
                have L11 := Lib.hid (L10.out.to e11 P11)
                have K11 := Lib.hid (K10.out.ext e11 (by intro q; rcases q with q | q <;> omega))
                have O11 := Lib.hid (O10.out.ext e11 (sx0 (by decide)))
                have S11 := Lib.hid (S10.out.ext e11 (by intro q; rcases q with q | q <;> omega))
                have HG := c_VcGot x11
                rw [OUT.out.got] at HG
                unfold sptV at HG
                dsimp only at HG
                have HG := Lib.hid HG
                have X11 := Lib.hid x11
                have KZ := Lib.hid k11
                clear e11 P11 x11 k11 HRv L10 K10 O10 S10
                go_wp2_with fail
                refine HG.out.mono ?_
                rintro e w12 ⟨rfl, hb12⟩
                have hba := (Below.refl w12.heap.size w12).alloc (Nat.le_refl _) (.cells #[.int .i64 p.b, .int .i64 p.q, .int .i64 p.s] 45)
                have B13 : Hid (Below w11.heap.size w11 (w12.alloc (.cells #[.int .i64 p.b, .int .i64 p.q, .int .i64 p.s] 45))) := Lib.hid (hb12.trans (hba.mono hb12.size))
                obtain ⟨-, V13⟩ := alloc_nbH (S := SW) (L11.out.below hb12).hi #[.int .i64 p.b, .int .i64 p.q, .int .i64 p.s] 45 w12.heap.size rfl
                have V13 := Lib.hid V13
                clear hb12 hba HG
                go_upto_region 31 with fail
                obtain ⟨w13, hw13⟩ : ∃ W, W = w12.alloc (.cells #[.int .i64 p.b, .int .i64 p.q, .int .i64 p.s] 45) := ⟨_, rfl⟩
                rw [← hw13] at B13 V13 ⊢
                clear hw13
                obtain ⟨X21, hX21⟩ : ∃ X, X = w12.heap.size := ⟨_, rfl⟩
                rw [← hX21] at V13 ⊢
                clear hX21
                have L13 := Lib.hid (L11.out.below B13.out)
                have HST := Lib.hid (c_Stand (A := A) L13.out (by omega) (by omega) OUT.out.wd HA.out (by omega) (OUT.out.it.trans (V3.out.it.trans FS.out.it)) hks HKS.out OUT.out.st)
                go_wp2_with fail
                refine HST.out.mono ?_
                rintro e w14 ⟨rfl, hb14⟩
                have B14 : Hid (Below w11.heap.size w11 w14) := Lib.hid (B13.out.trans (hb14.mono B13.out.size))
                have V14 := Lib.hid (V13.out.below hb14)
                obtain ⟨R2, hR2⟩ : ∃ R2, R2 = (ir .i64 (stC b y.M A) 64).toArray := ⟨_, rfl⟩
                have hR2s : R2.size = 64 := by rw [hR2]; exact ir_size _ _ _
                have hR2a : R2.all (·.oneCell') = true := by rw [hR2]; exact ir_all _ _ _
                rw [← hR2]
                have HR2 := Lib.hid hR2
                obtain ⟨V2, hV2⟩ : ∃ V2, V2 = Value.agg R2 := ⟨_, rfl⟩
                rw [← hV2]
                have HV2 := Lib.hid hV2
                clear hR2 hb14 HST hV2 L13 V13 B13
                go_upto_region 32 with (first
                  | (refine wpList_store_row rfl 85 _ _ rfl w14.heap.size R2 rfl HV2.out 85 _ (heap_alloc_new _ _) (by rw [hR2s]; kernel_rfl) (by rw [hR2s]; rfl) hR2a ?_))
                have h7 := setRow_heap _ w14.heap.size _ R2 _ _ (heap_alloc_new w14 (.cells (List.replicate 64 (.int .i64 0)).toArray 85))
                have hbr := below_setRow ((Below.refl w14.heap.size w14).alloc (Nat.le_refl _) (.cells (List.replicate 64 (.int .i64 0)).toArray 85)) (Nat.le_refl w14.heap.size) R2
                generalize hW5 : World.setRow (World.alloc w14 _) _ R2 = w15
                have hW6 : (w14.alloc (.cells (List.replicate 64 (.int .i64 0)).toArray 85)).setRow w14.heap.size R2 = w15 := hW5
                clear hW5
                rw [hW6] at h7 hbr
                clear hW6
                obtain ⟨X23, hX23⟩ : ∃ X, X = w14.heap.size := ⟨_, rfl⟩
                have B15 : Hid (Below w11.heap.size w11 w15) := Lib.hid (B14.out.trans (hbr.mono B14.out.size))
                have hx723 : X7 ≠ X23 := by have := K11.out.lt; have := B14.out.size; omega
                have hx715 : X7 < w15.heap.size := Nat.lt_of_lt_of_le K11.out.lt B15.out.size
                have H23 : Hid (w15.heap[X23]? = some (.cells (ir .i64 (stC b y.M A) 64).toArray 85 (0, 0))) := Lib.hid (by rw [hX23, h7, HR2.out])
                have V15 := Lib.hid (V14.out.below hbr)
                have GX23 : Hid (G11 X23 = 0) := Lib.hid (Classical.byContradiction fun q => by
                  have hq1 := L11.out.hi X23 q
                  have hq2 := B14.out.size
                  omega)
                rw [← hX23]
                clear hX23 h7 hbr HV2 hR2s hR2a V14 B14
                have L15 := Lib.hid (L11.out.below B15.out)
                obtain ⟨vn, hn, -⟩ := L15.out.p.no.ex
                obtain ⟨an, cn, rfl, -, -⟩ := (Arr.of_own hn.own).shape
                have HAL := Lib.hid (c_NtAll B.np _ y.nt w15 hn.head hn.lt (Arr.of_own hn.own) (by have := OUT.out.nl; omega))
                have p2 := L15.out.p.wo.c2
                clear hn
                go_wp2_with fail
                refine HAL.out.mono ?_
                rintro e w16 ⟨⟨v', rfl, hnn⟩, hb16⟩
                have B16 : Hid (Below w11.heap.size w11 w16) := Lib.hid (B15.out.trans (hb16.mono B15.out.size))
                have V16 := Lib.hid (V15.out.below hb16)
                have H23b : Hid (Bk w16 (fun _ => 0) 0 X23 85 (ir .i64 (stC b y.M A) 64)) := Lib.hid (Bk.below (W := w15) ⟨rfl, H23.out⟩ hb16)
                obtain ⟨ao, rfl⟩ := hnn.shape
                have NN := Lib.hid hnn.arr
                have NFR := Lib.hid hnn.fresh
                clear hb16 hnn HAL p2 L15 V15 H23 B15
                have L16 := Lib.hid (L11.out.below B16.out)
                have K16 := Lib.hid (K11.out.below B16.out)
                have O16 := Lib.hid (O11.out.below B16.out)
                have S16 := Lib.hid (S11.out.below B16.out)
                have X16 := Lib.hid (X11.out.below L11.out.hi B16.out)
                clear L11 K11 O11 S11 X11 B16
                go_upto_region 33 with fail
                obtain ⟨RS, hRS⟩ : ∃ RS, RS = (ir .u64 (mkI (vcM b a o s3.M k)) 64).toArray := ⟨_, rfl⟩
                have hmr : (ir .u64 (mkI y.M) 64).toArray = RS := by rw [hRS, ir64_congr OUT.out.mi]
                have eqS : ∀ W, (Op.equalIn 10000 36 (.agg RS) (.agg RS)).run Tryz.prog W = .ok true W := fun W => by rw [hRS]; exact eq_ir64u _ W
                have ldS : ∀ e : Later w16, (ld64 ⟨X13, 0, none⟩).run Tryz.prog (via w16 e) = .ok RS (via w16 e) := fun e => by rw [hRS]; exact (S16.out.below (via_below w16 e)).ld (ir_len _ _ _)
                have HMS : Hid (∀ e : Later w16, Calls Tryz.prog 44 #[.pointer (some ⟨B.p, 0, none⟩)] (via w16 e) fun e_1 w' => e_1 = .returned (.agg RS) ∧ Below (via w16 e).heap.size (via w16 e) w') := Lib.hid fun e => by rw [← hmr]; exact c_marks (L16.out.below (via_below w16 e))
                have HOD : Hid (∀ e : Later w16, Calls Tryz.prog 48 #[.pointer (some ⟨B.p, 0, none⟩)] (via w16 e) fun e_1 w' => e_1 = .returned (.int .i64 0) ∧ Below (via w16 e).heap.size (via w16 e) w') := Lib.hid fun e => c_Odds (L16.out.below (via_below w16 e)) OUT.out.od
                have HOV : Hid (∀ e : Later w16, Calls Tryz.prog 47 #[.pointer (some ⟨X, 0, none⟩)] (via w16 e) fun e_1 w' => e_1 = .returned (.bool true) ∧ via w16 e = w') := Lib.hid fun e => by
                  have h := c_VcOver (X16.out.below L16.out.hi (via_below w16 e)) KZ.out
                  rw [OUT.out.ov] at h
                  exact h
                have hl13 := S16.out.lt
                clear hRS hmr
                refine wp_region_via (by kernel_rfl) (by kernel_rfl) ?_
                repeat (go_big_quiet_step ((first
                  | (go_at_call 47; exact viaS (HOV.out _))
                  | (go_at_call 44; exact viaB (HMS.out _))
                  | (go_at_call 48; exact viaB (HOD.out _)))))
                refine wpQuiet_nil ?_
                rintro _ ⟨e, rfl⟩
                obtain ⟨Wv, hWv⟩ : ∃ Wv, Wv = via w16 e := ⟨_, rfl⟩
                have hbv : Below w16.heap.size w16 Wv := by rw [hWv]; exact via_below w16 e
                rw [← hWv]
                have L17 := Lib.hid (L16.out.below hbv)
                have K17 := Lib.hid (K16.out.below hbv)
                have O17 := Lib.hid (O16.out.below hbv)
                have V17 := Lib.hid (V16.out.below hbv)
                have H17 := Lib.hid (H23b.out.below hbv)
                have N17 := Lib.hid (NN.out.below hbv)
                clear hWv hbv eqS ldS HMS HOD HOV hl13 L16 K16 O16 S16 X16 V16 H23b NN
                have v0 := V17.out.c 0 _ rfl
                have v1 := V17.out.c 1 _ rfl
                have v2 := V17.out.c 2 _ rfl
                have HS := c_Slot p L17.out.p HPO.out L17.out.hi
                rw [TG.out.1, TG.out.2] at HS
                have HS := Lib.hid HS
                have dk0 : decide ((k : Int) < 0) = false := decide_eq_false (by omega)
                go_wp2_with fail
                refine HS.out.mono ?_
                rintro e w18 ⟨rfl, hb18⟩
                clear v0 v1 v2 HS
                have L18 := Lib.hid (L17.out.below hb18)
                have K18 := Lib.hid (K17.out.below hb18)
                have O18 := Lib.hid (O17.out.below hb18)
                have V18 := Lib.hid (V17.out.below hb18)
                have H18 := Lib.hid (H17.out.below hb18)
                have N18 := Lib.hid (N17.out.below hb18)
                clear hb18 L17 K17 O17 V17 H17 N17
                obtain ⟨c0, c1, c2⟩ := O18.out.c k hkN
                rw [← HPE.out] at c0 c1 c2
                have v0 := V18.out.c 0 _ rfl
                have v1 := V18.out.c 1 _ rfl
                have v2 := V18.out.c 2 _ rfl
                have hkb0 : (0 : Int) ≤ (k : Int) := by omega
                have hkb1 : (k : Int) < (N : Int) := by omega
                have bn : ∀ q, Below w18.heap.size w18 (w18.drewN q) := fun q => ⟨rfl, rfl, rfl, Nat.le_refl _, fun _ _ => rfl⟩
                have BN := Lib.hid bn
                clear bn
                go_upto_region 41 with fail
                go_quiet (fail)
                obtain ⟨w19, hw19⟩ : ∃ w19, w19 = w18.drewN nq := ⟨_, rfl⟩
                have hb19 : Below w18.heap.size w18 w19 := by rw [hw19]; exact BN.out nq
                rw [← hw19]
                have L19 := Lib.hid (L18.out.below hb19)
                have K19 := Lib.hid (K18.out.below hb19)
                have V19 := Lib.hid (V18.out.below hb19)
                have H19 := Lib.hid (H18.out.below hb19)
                have N19 := Lib.hid (N18.out.below hb19)
                clear hw19 hb19 L18 K18 O18 V18 H18 N18 c0 c1 c2 v0 v1 v2 BN
                obtain ⟨RT, hRT⟩ : ∃ RT, RT = (ir .i64 (stC b s3.M A) 64).toArray := ⟨_, rfl⟩
                have hrow : (ir .i64 (stC b y.M A) 64).toArray = RT := by rw [hRT, ir64_congr (J := stC b s3.M A) (fun j hj => stC_same (fun i hi => YLO.out _ (by have := (plAt_ok b i).item; omega)) j)]
                have eqT : ∀ W, (Op.equalIn 10000 85 (.agg RT) (.agg RT)).run Tryz.prog W = .ok true W := fun W => by rw [hRT]; exact eq_ir64i _ W
                have ld7 : (ld64 ⟨X7, 0, none⟩).run Tryz.prog w19 = .ok RT w19 := by rw [hRT]; exact K19.out.ld (ir_len _ _ _)
                have ld23 : (ld64 ⟨X23, 0, none⟩).run Tryz.prog w19 = .ok RT w19 := by rw [← hrow]; exact H19.out.ld (ir_len _ _ _)
                have dl : ((y.nt.length : Int) == 0) = true := by rw [YNT.out]; rfl
                have er : (vcI b a o s3.M k == 0) = true := by simp [hz]
                have p0 := L19.out.p.wo.c0
                have HPK6 := L19.out.peek 6 (by decide) (by decide) w19 (Below.refl _ _)
                rw [YLO.out 6 (by decide), C6.out] at HPK6
                have HPK6 := Lib.hid HPK6
                clear hRT hrow
                go_wp2_with fail
                refine HPK6.out.mono ?_
                rintro e w' ⟨rfl, rfl⟩
                go_wp2_with fail
                refine (c_lives24 w19).mono ?_
                rintro e w20 ⟨rfl, hb20⟩
                go_wp2_with fail
                go_ret
                exact ⟨rfl, L19.out.bel.trans (hb20.mono L19.out.bel.size)⟩
              · obtain ⟨cz, y, z, hOUT, ⟨nn1, nn2, hynt⟩, hy6, hpi, hpt, hst⟩ := VoR.drop (A := A) FS.out hks VB.out hhb.1 hhb.2 V3.out HA.out (by rw [← HNE.out]; exact hkN) VS.out hz1 hz2 C6.out
                obtain ⟨p, hp⟩ : ∃ p, p = vcP b a o k := ⟨_, rfl⟩
                rw [← hp] at hOUT hynt hpi hpt
                have hpo : p.ok := by rw [hp]; exact VO.out.ok k (by omega)
                have hit40 := VO.out.bd k (by rw [← HNE.out]; exact hkN)
                obtain ⟨itn, hin⟩ : ∃ itn : Nat, (itn : Int) = vcI b a o s3.M k := ⟨(vcI b a o s3.M k).toNat, by omega⟩
                have hitb : 1 ≤ itn ∧ itn ≤ 40 := by omega
                rw [← hin] at hynt hst ⊢
                have OUT := Lib.hid hOUT
                have YNT := Lib.hid hynt
                have HY6 := Lib.hid hy6
                have HPE := Lib.hid hp
                have HPO := Lib.hid hpo
                have HST9 := Lib.hid hst
                have TG : Hid (twTag (y.M p.tags) p.s = 0 ∧ y.M p.item = 0) := Lib.hid ⟨hpt, hpi⟩
                clear hOUT hynt hy6 hpi hpt hst hp hpo hit40 hin hz1 hz2
                have p0 := L9.out.p.wo.c0
                have HPK6 := L9.out.peek 6 (by decide) (by decide) wr (Below.refl _ _)
                rw [C6.out] at HPK6
                have HPK6 := Lib.hid HPK6
                have HNV := Lib.hid (c_NewVictim (w := wr) (O := G9) (k := 20) b h (by omega) (by omega) hhb.1 hhb.2 (by decide) L9.out.hi)
                go_wp2_with fail
                refine HPK6.out.mono ?_
                rintro e w' ⟨rfl, rfl⟩
                clear HPK6
                go_wp2_with fail
                refine HNV.out.mono ?_
                rintro e w10 ⟨X, rfl, G10, e10, x10⟩
                have L10 := L9.out.ext e10 (by omega) (by omega) (by omega) (by omega)
                have K10 := Lib.hid (K9.out.ext e10 (by omega))
                have O10 := Lib.hid (O9.out.ext e10 (by omega))
                have S10 := Lib.hid (S9.out.ext e10 (by omega))
                have HRv := c_VcRun (k := 20) X (vcNew b h) 99 L10.p x10 (vcNew_ok b h hhb.1 hhb.2) (by decide) L10.hi V3.out.n0 (by have := V3.out.n1; omega)
                rw [OUT.out.run] at HRv
                dsimp only at HRv
                have HRv := Lib.hid HRv
                have L10 := Lib.hid L10
                clear e10 x10 HNV L9 K9 O9 S9 p0
                go_wp2_with fail
                refine HRv.out.mono ?_
                rintro e w11 ⟨rfl, G11, e11, P11, x11, k11⟩
                have L11 := Lib.hid (L10.out.to e11 P11)
                have K11 := Lib.hid (K10.out.ext e11 (by intro q; rcases q with q | q <;> omega))
                have O11 := Lib.hid (O10.out.ext e11 (sx0 (by decide)))
                have S11 := Lib.hid (S10.out.ext e11 (by intro q; rcases q with q | q <;> omega))
                have HG := c_VcGot x11
                rw [OUT.out.got] at HG
                unfold sptV at HG
                dsimp only at HG
                have HG := Lib.hid HG
                have X11 := Lib.hid x11
                have KZ := Lib.hid k11
                clear e11 P11 x11 k11 HRv L10 K10 O10 S10
                go_wp2_with fail
                refine HG.out.mono ?_
                rintro e w12 ⟨rfl, hb12⟩
                have hba := (Below.refl w12.heap.size w12).alloc (Nat.le_refl _) (.cells #[.int .i64 p.b, .int .i64 p.q, .int .i64 p.s] 45)
                have B13 : Hid (Below w11.heap.size w11 (w12.alloc (.cells #[.int .i64 p.b, .int .i64 p.q, .int .i64 p.s] 45))) := Lib.hid (hb12.trans (hba.mono hb12.size))
                obtain ⟨-, V13⟩ := alloc_nbH (S := SW) (L11.out.below hb12).hi #[.int .i64 p.b, .int .i64 p.q, .int .i64 p.s] 45 w12.heap.size rfl
                have V13 := Lib.hid V13
                clear hb12 hba HG
                go_upto_region 31 with fail
                obtain ⟨w13, hw13⟩ : ∃ W, W = w12.alloc (.cells #[.int .i64 p.b, .int .i64 p.q, .int .i64 p.s] 45) := ⟨_, rfl⟩
                rw [← hw13] at B13 V13 ⊢
                clear hw13
                obtain ⟨X21, hX21⟩ : ∃ X, X = w12.heap.size := ⟨_, rfl⟩
                rw [← hX21] at V13 ⊢
                clear hX21
                have L13 := Lib.hid (L11.out.below B13.out)
                have HST := Lib.hid (c_Stand (A := A) L13.out (by omega) (by omega) OUT.out.wd HA.out (by omega) (OUT.out.it.trans (V3.out.it.trans FS.out.it)) hks HKS.out OUT.out.st)
                go_wp2_with fail
                refine HST.out.mono ?_
                rintro e w14 ⟨rfl, hb14⟩
                have B14 : Hid (Below w11.heap.size w11 w14) := Lib.hid (B13.out.trans (hb14.mono B13.out.size))
                have V14 := Lib.hid (V13.out.below hb14)
                obtain ⟨R2, hR2⟩ : ∃ R2, R2 = (ir .i64 (stC b y.M A) 64).toArray := ⟨_, rfl⟩
                have hR2s : R2.size = 64 := by rw [hR2]; exact ir_size _ _ _
                have hR2a : R2.all (·.oneCell') = true := by rw [hR2]; exact ir_all _ _ _
                rw [← hR2]
                have HR2 := Lib.hid hR2
                obtain ⟨V2, hV2⟩ : ∃ V2, V2 = Value.agg R2 := ⟨_, rfl⟩
                rw [← hV2]
                have HV2 := Lib.hid hV2
                clear hR2 hb14 HST hV2 L13 V13 B13
                go_upto_region 32 with (first
                  | (refine wpList_store_row rfl 85 _ _ rfl w14.heap.size R2 rfl HV2.out 85 _ (heap_alloc_new _ _) (by rw [hR2s]; kernel_rfl) (by rw [hR2s]; rfl) hR2a ?_))
                have h7 := setRow_heap _ w14.heap.size _ R2 _ _ (heap_alloc_new w14 (.cells (List.replicate 64 (.int .i64 0)).toArray 85))
                have hbr := below_setRow ((Below.refl w14.heap.size w14).alloc (Nat.le_refl _) (.cells (List.replicate 64 (.int .i64 0)).toArray 85)) (Nat.le_refl w14.heap.size) R2
                generalize hW5 : World.setRow (World.alloc w14 _) _ R2 = w15
                have hW6 : (w14.alloc (.cells (List.replicate 64 (.int .i64 0)).toArray 85)).setRow w14.heap.size R2 = w15 := hW5
                clear hW5
                rw [hW6] at h7 hbr
                clear hW6
                obtain ⟨X23, hX23⟩ : ∃ X, X = w14.heap.size := ⟨_, rfl⟩
                have B15 : Hid (Below w11.heap.size w11 w15) := Lib.hid (B14.out.trans (hbr.mono B14.out.size))
                have hx723 : X7 ≠ X23 := by have := K11.out.lt; have := B14.out.size; omega
                have hx715 : X7 < w15.heap.size := Nat.lt_of_lt_of_le K11.out.lt B15.out.size
                have H23 : Hid (w15.heap[X23]? = some (.cells (ir .i64 (stC b y.M A) 64).toArray 85 (0, 0))) := Lib.hid (by rw [hX23, h7, HR2.out])
                have V15 := Lib.hid (V14.out.below hbr)
                have GX23 : Hid (G11 X23 = 0) := Lib.hid (Classical.byContradiction fun q => by
                  have hq1 := L11.out.hi X23 q
                  have hq2 := B14.out.size
                  omega)
                rw [← hX23]
                clear hX23 h7 hbr HV2 hR2s hR2a V14 B14
                have L15 := Lib.hid (L11.out.below B15.out)
                obtain ⟨vn, hn, -⟩ := L15.out.p.no.ex
                obtain ⟨an, cn, rfl, -, -⟩ := (Arr.of_own hn.own).shape
                have HAL := Lib.hid (c_NtAll B.np _ y.nt w15 hn.head hn.lt (Arr.of_own hn.own) (by have := OUT.out.nl; omega))
                have p2 := L15.out.p.wo.c2
                clear hn
                go_wp2_with fail
                refine HAL.out.mono ?_
                rintro e w16 ⟨⟨v', rfl, hnn⟩, hb16⟩
                have B16 : Hid (Below w11.heap.size w11 w16) := Lib.hid (B15.out.trans (hb16.mono B15.out.size))
                have V16 := Lib.hid (V15.out.below hb16)
                have H23b : Hid (Bk w16 (fun _ => 0) 0 X23 85 (ir .i64 (stC b y.M A) 64)) := Lib.hid (Bk.below (W := w15) ⟨rfl, H23.out⟩ hb16)
                obtain ⟨ao, rfl⟩ := hnn.shape
                have NN := Lib.hid hnn.arr
                have NFR := Lib.hid hnn.fresh
                clear hb16 hnn HAL p2 L15 V15 H23 B15
                have L16 := Lib.hid (L11.out.below B16.out)
                have K16 := Lib.hid (K11.out.below B16.out)
                have O16 := Lib.hid (O11.out.below B16.out)
                have S16 := Lib.hid (S11.out.below B16.out)
                have X16 := Lib.hid (X11.out.below L11.out.hi B16.out)
                clear L11 K11 O11 S11 X11 B16
                go_upto_region 33 with fail
                obtain ⟨RS, hRS⟩ : ∃ RS, RS = (ir .u64 (mkI (vcM b a o s3.M k)) 64).toArray := ⟨_, rfl⟩
                have hmr : (ir .u64 (mkI y.M) 64).toArray = RS := by rw [hRS, ir64_congr OUT.out.mi]
                have eqS : ∀ W, (Op.equalIn 10000 36 (.agg RS) (.agg RS)).run Tryz.prog W = .ok true W := fun W => by rw [hRS]; exact eq_ir64u _ W
                have ldS : ∀ e : Later w16, (ld64 ⟨X13, 0, none⟩).run Tryz.prog (via w16 e) = .ok RS (via w16 e) := fun e => by rw [hRS]; exact (S16.out.below (via_below w16 e)).ld (ir_len _ _ _)
                have HMS : Hid (∀ e : Later w16, Calls Tryz.prog 44 #[.pointer (some ⟨B.p, 0, none⟩)] (via w16 e) fun e_1 w' => e_1 = .returned (.agg RS) ∧ Below (via w16 e).heap.size (via w16 e) w') := Lib.hid fun e => by rw [← hmr]; exact c_marks (L16.out.below (via_below w16 e))
                have HOD : Hid (∀ e : Later w16, Calls Tryz.prog 48 #[.pointer (some ⟨B.p, 0, none⟩)] (via w16 e) fun e_1 w' => e_1 = .returned (.int .i64 0) ∧ Below (via w16 e).heap.size (via w16 e) w') := Lib.hid fun e => c_Odds (L16.out.below (via_below w16 e)) OUT.out.od
                have HOV : Hid (∀ e : Later w16, Calls Tryz.prog 47 #[.pointer (some ⟨X, 0, none⟩)] (via w16 e) fun e_1 w' => e_1 = .returned (.bool true) ∧ via w16 e = w') := Lib.hid fun e => by
                  have h := c_VcOver (X16.out.below L16.out.hi (via_below w16 e)) KZ.out
                  rw [OUT.out.ov] at h
                  exact h
                have hl13 := S16.out.lt
                clear hRS hmr
                refine wp_region_via (by kernel_rfl) (by kernel_rfl) ?_
                repeat (go_big_quiet_step ((first
                  | (go_at_call 47; exact viaS (HOV.out _))
                  | (go_at_call 44; exact viaB (HMS.out _))
                  | (go_at_call 48; exact viaB (HOD.out _)))))
                refine wpQuiet_nil ?_
                rintro _ ⟨e, rfl⟩
                obtain ⟨Wv, hWv⟩ : ∃ Wv, Wv = via w16 e := ⟨_, rfl⟩
                have hbv : Below w16.heap.size w16 Wv := by rw [hWv]; exact via_below w16 e
                rw [← hWv]
                have L17 := Lib.hid (L16.out.below hbv)
                have K17 := Lib.hid (K16.out.below hbv)
                have O17 := Lib.hid (O16.out.below hbv)
                have V17 := Lib.hid (V16.out.below hbv)
                have H17 := Lib.hid (H23b.out.below hbv)
                have N17 := Lib.hid (NN.out.below hbv)
                clear hWv hbv eqS ldS HMS HOD HOV hl13 L16 K16 O16 S16 X16 V16 H23b NN
                have v0 := V17.out.c 0 _ rfl
                have v1 := V17.out.c 1 _ rfl
                have v2 := V17.out.c 2 _ rfl
                have HS := c_Slot p L17.out.p HPO.out L17.out.hi
                rw [TG.out.1, TG.out.2] at HS
                have HS := Lib.hid HS
                have dk0 : decide ((k : Int) < 0) = false := decide_eq_false (by omega)
                go_wp2_with fail
                refine HS.out.mono ?_
                rintro e w18 ⟨rfl, hb18⟩
                clear v0 v1 v2 HS
                have L18 := Lib.hid (L17.out.below hb18)
                have K18 := Lib.hid (K17.out.below hb18)
                have O18 := Lib.hid (O17.out.below hb18)
                have V18 := Lib.hid (V17.out.below hb18)
                have H18 := Lib.hid (H17.out.below hb18)
                have N18 := Lib.hid (N17.out.below hb18)
                clear hb18 L17 K17 O17 V17 H17 N17
                obtain ⟨c0, c1, c2⟩ := O18.out.c k hkN
                rw [← HPE.out] at c0 c1 c2
                have v0 := V18.out.c 0 _ rfl
                have v1 := V18.out.c 1 _ rfl
                have v2 := V18.out.c 2 _ rfl
                have hkb0 : (0 : Int) ≤ (k : Int) := by omega
                have hkb1 : (k : Int) < (N : Int) := by omega
                have bn : ∀ q, Below w18.heap.size w18 (w18.drewN q) := fun q => ⟨rfl, rfl, rfl, Nat.le_refl _, fun _ _ => rfl⟩
                have BN := Lib.hid bn
                clear bn
                go_upto_region 41 with fail
                go_quiet (fail)
                obtain ⟨w19, hw19⟩ : ∃ w19, w19 = w18.drewN nq := ⟨_, rfl⟩
                have hb19 : Below w18.heap.size w18 w19 := by rw [hw19]; exact BN.out nq
                rw [← hw19]
                have L19 := Lib.hid (L18.out.below hb19)
                have K19 := Lib.hid (K18.out.below hb19)
                have V19 := Lib.hid (V18.out.below hb19)
                have H19 := Lib.hid (H18.out.below hb19)
                have N19 := Lib.hid (N18.out.below hb19)
                clear hw19 hb19 L18 K18 O18 V18 H18 N18 c0 c1 c2 v0 v1 v2 BN
                have er : ((itn : Int) == 0) = false := beq_false_of_ne (by omega)
                have a0 := cell_of_blk (j := itn) K19.out.h (ir64_get (by omega))
                have f0 := froz_of_blk itn K19.out.h
                obtain ⟨cur, hcur⟩ : ∃ cur, cur = stC b s3.M A itn := ⟨_, rfl⟩
                rw [← hcur] at a0
                have hcb := stC_bd b s3.M A itn
                rw [← hcur] at hcb
                have hnb0 : (0 : Int) ≤ (itn : Int) := by omega
                have hnb1 : (itn : Int) < 64 := by omega
                obtain ⟨RT, hRT⟩ : ∃ RT, RT = (ir .i64 (stC b y.M A) 64).toArray := ⟨_, rfl⟩
                have e20 : Ext (fun t => t = 50) G11 w19 G11 (w19.setCell ⟨X7, itn, none⟩ (.int .i64 (cur - 1))) := Ext.of_set (S := fun t => t = 50) L19.out.hi K19.out.o (show (50 : Nat) ≠ 0 by decide) rfl
                have L20 := Lib.hid (L19.out.ext e20 (by decide) (by decide) (by decide) (by decide))
                have V20 := Lib.hid (V19.out.ext e20 (by decide))
                have K20 : Hid (Bk (w19.setCell ⟨X7, itn, none⟩ (.int .i64 (cur - 1))) G11 50 X7 85 (ir .i64 (stC b y.M A) 64)) := Lib.hid ⟨K19.out.o, by
                  rw [blk_set K19.out.h, ir64_put (J := stC b y.M A) (by omega) (by rw [HST9.out itn, if_pos rfl, hcur]) (fun j hj hne => by rw [HST9.out j, if_neg (by omega), Int.sub_zero])]⟩
                have H20 : Hid (Bk (w19.setCell ⟨X7, itn, none⟩ (.int .i64 (cur - 1))) (fun _ => 0) 0 X23 85 (ir .i64 (stC b y.M A) 64)) := Lib.hid ⟨rfl, by
                  rw [heap_setCell_other _ _ _ _ (by show X23 ≠ X7; exact Ne.symm hx723)]; exact H19.out.h⟩
                have hyl : y.nt.length = 1 := by rw [YNT.out]; rfl
                obtain ⟨Ab, ob, cb, heb, -, -, hltb, hxb⟩ := N19.out.open (by omega) (by omega)
                have hfr := (NFR.out _ _ _ heb).1
                cases heb
                have hxa : Ab ≠ X7 := by dsimp only at hfr; omega
                rw [YNT.out] at hxb
                have HC : Hid (∀ t u, (ntc ⟨nn1, nn2, 1, itn, p.b, p.q, p.s, 0⟩)[t]? = some u → (w19.setCell ⟨X7, itn, none⟩ (.int .i64 (cur - 1))).cell? ⟨Ab, ob + t, none⟩ = some u) := Lib.hid fun t u hu => (World.cell?_setCell_other _ _ _ _ (by simp <;> omega)).trans (hxb t u (by rw [show rowOf ntc [(⟨nn1, nn2, 1, itn, p.b, p.q, p.s, 0⟩ : Nt)] = ntc ⟨nn1, nn2, 1, itn, p.b, p.q, p.s, 0⟩ ++ [] from rfl, List.append_nil]; exact hu))
                have HCU := Lib.hid hcur
                have HRT := Lib.hid hRT
                clear hxb hfr e20 hcur hRT
                go_upto_region 46 with fail
                obtain ⟨w20, hw20⟩ : ∃ W, W = w19.setCell ⟨X7, itn, none⟩ (.int .i64 (cur - 1)) := ⟨_, rfl⟩
                rw [← hw20] at L20 V20 K20 H20 HC ⊢
                have hsz20 : w19.heap.size ≤ w20.heap.size := by rw [hw20]; simp
                clear hw20 a0 f0 L19 K19 V19 H19 N19
                have n2 := HC.out 2 _ rfl
                have n3 := HC.out 3 _ rfl
                have n4 := HC.out 4 _ rfl
                have n5 := HC.out 5 _ rfl
                have n6 := HC.out 6 _ rfl
                have hlb : Ab < w20.heap.size := Nat.lt_of_lt_of_le hltb hsz20
                have v0 := V20.out.c 0 _ rfl
                have v1 := V20.out.c 1 _ rfl
                have v2 := V20.out.c 2 _ rfl
                have hlv := V20.out.lt
                have p0 := L20.out.c0 w20 (Below.refl _ _)
                have hlp := L20.out.p.wo.lt
                have dl : ((y.nt.length : Int) == 1) = true := by rw [hyl]; rfl
                have hl0 : (0 : Int) < (y.nt.length : Int) := by omega
                have hw1 : IntKind.u64.wrap (-1) = 18446744073709551615 := by decide
                have eqT : ∀ W, (Op.equalIn 10000 85 (.agg RT) (.agg RT)).run Tryz.prog W = .ok true W := fun W => by rw [HRT.out]; exact eq_ir64i _ W
                have ld7 : ∀ e : Later w20, (ld64 ⟨X7, 0, none⟩).run Tryz.prog (via w20 e) = .ok RT (via w20 e) := fun e => by rw [HRT.out]; exact (K20.out.below (via_below w20 e)).ld (ir_len _ _ _)
                have ld23 : ∀ e : Later w20, (ld64 ⟨X23, 0, none⟩).run Tryz.prog (via w20 e) = .ok RT (via w20 e) := fun e => by rw [HRT.out]; exact (H20.out.below (via_below w20 e)).ld (ir_len _ _ _)
                have HPK : Hid (∀ e : Later w20, Calls Tryz.prog 16 #[.pointer (some ⟨B.c, 0, none⟩), .int .u64 6] (via w20 e) fun e_1 w' => e_1 = .returned (.int .u64 18446744073709551615) ∧ via w20 e = w') := Lib.hid fun e => by
                  have h := L20.out.peek 6 (by decide) (by decide) _ (via_below w20 e)
                  rw [HY6.out] at h
                  exact h
                clear hyl
                refine wp_region_via (by kernel_rfl) (by kernel_rfl) ?_
                repeat (go_big_quiet_step ((first
                  | (go_at_call 16; exact viaS (HPK.out _))
                  | (go_at_call 34; exact viaB (c_lives24 _)))))
                refine wpQuiet_nil ?_
                rintro _ ⟨e, rfl⟩
                go_wp2_with fail
                go_ret
                exact ⟨rfl, L20.out.bel.trans ((via_below w20 e).mono L20.out.bel.size)⟩
            · have di : decide ((((k + 1 : Nat) : Int)) < (N : Int)) = false := decide_eq_false (by omega)
              have dk : decide ((k : Int) < 0) = false := decide_eq_false (by omega)
              go_upto_region 27 with fail
              rcases hC with hz | ⟨hz1, hz2⟩
              · obtain ⟨cz, y, z, hOUT, hynt, hylo⟩ := VoR.free (A := A) FS.out hks VB.out hhb.1 hhb.2 V3.out (by rw [← HNE.out]; exact hkN) VS.out hz
                obtain ⟨p, hp⟩ : ∃ p, p = vcP b a o k := ⟨_, rfl⟩
                rw [← hp] at hOUT
                have hpo : p.ok := by rw [hp]; exact VO.out.ok k (by omega)
                have OUT := Lib.hid hOUT
                have YNT := Lib.hid hynt
                have YLO := Lib.hid hylo
                have HPE := Lib.hid hp
                have HPO := Lib.hid hpo
                have TG : Hid (twTag (y.M p.tags) p.s = 0 ∧ y.M p.item = 0) := Lib.hid (by
                  have hq1 := hpo.tags
                  have hq2 := hpo.item
                  have hi : s3.M p.item = 0 := by rw [hp]; exact hz
                  rw [hylo _ (by omega), hylo _ (by omega), V3.out.lo _ (by omega), V3.out.lo _ (by omega)]
                  rw [V3.out.lo _ (by omega)] at hi
                  exact ⟨(FS.out.fil.free hpo (by rw [hp]; exact vcP_b _ _ _ _)).2 hi, hi⟩)
                clear hOUT hynt hylo hp hpo
                have p0 := L9.out.p.wo.c0
                have HPK6 := L9.out.peek 6 (by decide) (by decide) wr (Below.refl _ _)
                rw [C6.out] at HPK6
                have HPK6 := Lib.hid HPK6
                have HNV := Lib.hid (c_NewVictim (w := wr) (O := G9) (k := 20) b h (by omega) (by omega) hhb.1 hhb.2 (by decide) L9.out.hi)
                go_wp2_with fail
                refine HPK6.out.mono ?_
                rintro e w' ⟨rfl, rfl⟩
                clear HPK6
                go_wp2_with fail
                refine HNV.out.mono ?_
                rintro e w10 ⟨X, rfl, G10, e10, x10⟩
                have L10 := L9.out.ext e10 (by omega) (by omega) (by omega) (by omega)
                have K10 := Lib.hid (K9.out.ext e10 (by omega))
                have O10 := Lib.hid (O9.out.ext e10 (by omega))
                have S10 := Lib.hid (S9.out.ext e10 (by omega))
                have HRv := c_VcRun (k := 20) X (vcNew b h) 99 L10.p x10 (vcNew_ok b h hhb.1 hhb.2) (by decide) L10.hi V3.out.n0 (by have := V3.out.n1; omega)
                rw [OUT.out.run] at HRv
                dsimp only at HRv
                have HRv := Lib.hid HRv
                have L10 := Lib.hid L10
                clear e10 x10 HNV L9 K9 O9 S9 p0
                go_wp2_with fail
                refine HRv.out.mono ?_
                rintro e w11 ⟨rfl, G11, e11, P11, x11, k11⟩
                have L11 := Lib.hid (L10.out.to e11 P11)
                have K11 := Lib.hid (K10.out.ext e11 (by intro q; rcases q with q | q <;> omega))
                have O11 := Lib.hid (O10.out.ext e11 (sx0 (by decide)))
                have S11 := Lib.hid (S10.out.ext e11 (by intro q; rcases q with q | q <;> omega))
                have HG := c_VcGot x11
                rw [OUT.out.got] at HG
                unfold sptV at HG
                dsimp only at HG
                have HG := Lib.hid HG
                have X11 := Lib.hid x11
                have KZ := Lib.hid k11
                clear e11 P11 x11 k11 HRv L10 K10 O10 S10
                go_wp2_with fail
                refine HG.out.mono ?_
                rintro e w12 ⟨rfl, hb12⟩
                have hba := (Below.refl w12.heap.size w12).alloc (Nat.le_refl _) (.cells #[.int .i64 p.b, .int .i64 p.q, .int .i64 p.s] 45)
                have B13 : Hid (Below w11.heap.size w11 (w12.alloc (.cells #[.int .i64 p.b, .int .i64 p.q, .int .i64 p.s] 45))) := Lib.hid (hb12.trans (hba.mono hb12.size))
                obtain ⟨-, V13⟩ := alloc_nbH (S := SW) (L11.out.below hb12).hi #[.int .i64 p.b, .int .i64 p.q, .int .i64 p.s] 45 w12.heap.size rfl
                have V13 := Lib.hid V13
                clear hb12 hba HG
                go_upto_region 31 with fail
                obtain ⟨w13, hw13⟩ : ∃ W, W = w12.alloc (.cells #[.int .i64 p.b, .int .i64 p.q, .int .i64 p.s] 45) := ⟨_, rfl⟩
                rw [← hw13] at B13 V13 ⊢
                clear hw13
                obtain ⟨X21, hX21⟩ : ∃ X, X = w12.heap.size := ⟨_, rfl⟩
                rw [← hX21] at V13 ⊢
                clear hX21
                have L13 := Lib.hid (L11.out.below B13.out)
                have HST := Lib.hid (c_Stand (A := A) L13.out (by omega) (by omega) OUT.out.wd HA.out (by omega) (OUT.out.it.trans (V3.out.it.trans FS.out.it)) hks HKS.out OUT.out.st)
                go_wp2_with fail
                refine HST.out.mono ?_
                rintro e w14 ⟨rfl, hb14⟩
                have B14 : Hid (Below w11.heap.size w11 w14) := Lib.hid (B13.out.trans (hb14.mono B13.out.size))
                have V14 := Lib.hid (V13.out.below hb14)
                obtain ⟨R2, hR2⟩ : ∃ R2, R2 = (ir .i64 (stC b y.M A) 64).toArray := ⟨_, rfl⟩
                have hR2s : R2.size = 64 := by rw [hR2]; exact ir_size _ _ _
                have hR2a : R2.all (·.oneCell') = true := by rw [hR2]; exact ir_all _ _ _
                rw [← hR2]
                have HR2 := Lib.hid hR2
                obtain ⟨V2, hV2⟩ : ∃ V2, V2 = Value.agg R2 := ⟨_, rfl⟩
                rw [← hV2]
                have HV2 := Lib.hid hV2
                clear hR2 hb14 HST hV2 L13 V13 B13
                go_upto_region 32 with (first
                  | (refine wpList_store_row rfl 85 _ _ rfl w14.heap.size R2 rfl HV2.out 85 _ (heap_alloc_new _ _) (by rw [hR2s]; kernel_rfl) (by rw [hR2s]; rfl) hR2a ?_))
                have h7 := setRow_heap _ w14.heap.size _ R2 _ _ (heap_alloc_new w14 (.cells (List.replicate 64 (.int .i64 0)).toArray 85))
                have hbr := below_setRow ((Below.refl w14.heap.size w14).alloc (Nat.le_refl _) (.cells (List.replicate 64 (.int .i64 0)).toArray 85)) (Nat.le_refl w14.heap.size) R2
                generalize hW5 : World.setRow (World.alloc w14 _) _ R2 = w15
                have hW6 : (w14.alloc (.cells (List.replicate 64 (.int .i64 0)).toArray 85)).setRow w14.heap.size R2 = w15 := hW5
                clear hW5
                rw [hW6] at h7 hbr
                clear hW6
                obtain ⟨X23, hX23⟩ : ∃ X, X = w14.heap.size := ⟨_, rfl⟩
                have B15 : Hid (Below w11.heap.size w11 w15) := Lib.hid (B14.out.trans (hbr.mono B14.out.size))
                have hx723 : X7 ≠ X23 := by have := K11.out.lt; have := B14.out.size; omega
                have hx715 : X7 < w15.heap.size := Nat.lt_of_lt_of_le K11.out.lt B15.out.size
                have H23 : Hid (w15.heap[X23]? = some (.cells (ir .i64 (stC b y.M A) 64).toArray 85 (0, 0))) := Lib.hid (by rw [hX23, h7, HR2.out])
                have V15 := Lib.hid (V14.out.below hbr)
                have GX23 : Hid (G11 X23 = 0) := Lib.hid (Classical.byContradiction fun q => by
                  have hq1 := L11.out.hi X23 q
                  have hq2 := B14.out.size
                  omega)
                rw [← hX23]
                clear hX23 h7 hbr HV2 hR2s hR2a V14 B14
                have L15 := Lib.hid (L11.out.below B15.out)
                obtain ⟨vn, hn, -⟩ := L15.out.p.no.ex
                obtain ⟨an, cn, rfl, -, -⟩ := (Arr.of_own hn.own).shape
                have HAL := Lib.hid (c_NtAll B.np _ y.nt w15 hn.head hn.lt (Arr.of_own hn.own) (by have := OUT.out.nl; omega))
                have p2 := L15.out.p.wo.c2
                clear hn
                go_wp2_with fail
                refine HAL.out.mono ?_
                rintro e w16 ⟨⟨v', rfl, hnn⟩, hb16⟩
                have B16 : Hid (Below w11.heap.size w11 w16) := Lib.hid (B15.out.trans (hb16.mono B15.out.size))
                have V16 := Lib.hid (V15.out.below hb16)
                have H23b : Hid (Bk w16 (fun _ => 0) 0 X23 85 (ir .i64 (stC b y.M A) 64)) := Lib.hid (Bk.below (W := w15) ⟨rfl, H23.out⟩ hb16)
                obtain ⟨ao, rfl⟩ := hnn.shape
                have NN := Lib.hid hnn.arr
                have NFR := Lib.hid hnn.fresh
                clear hb16 hnn HAL p2 L15 V15 H23 B15
                have L16 := Lib.hid (L11.out.below B16.out)
                have K16 := Lib.hid (K11.out.below B16.out)
                have O16 := Lib.hid (O11.out.below B16.out)
                have S16 := Lib.hid (S11.out.below B16.out)
                have X16 := Lib.hid (X11.out.below L11.out.hi B16.out)
                clear L11 K11 O11 S11 X11 B16
                go_upto_region 33 with fail
                obtain ⟨RS, hRS⟩ : ∃ RS, RS = (ir .u64 (mkI (vcM b a o s3.M k)) 64).toArray := ⟨_, rfl⟩
                have hmr : (ir .u64 (mkI y.M) 64).toArray = RS := by rw [hRS, ir64_congr OUT.out.mi]
                have eqS : ∀ W, (Op.equalIn 10000 36 (.agg RS) (.agg RS)).run Tryz.prog W = .ok true W := fun W => by rw [hRS]; exact eq_ir64u _ W
                have ldS : ∀ e : Later w16, (ld64 ⟨X13, 0, none⟩).run Tryz.prog (via w16 e) = .ok RS (via w16 e) := fun e => by rw [hRS]; exact (S16.out.below (via_below w16 e)).ld (ir_len _ _ _)
                have HMS : Hid (∀ e : Later w16, Calls Tryz.prog 44 #[.pointer (some ⟨B.p, 0, none⟩)] (via w16 e) fun e_1 w' => e_1 = .returned (.agg RS) ∧ Below (via w16 e).heap.size (via w16 e) w') := Lib.hid fun e => by rw [← hmr]; exact c_marks (L16.out.below (via_below w16 e))
                have HOD : Hid (∀ e : Later w16, Calls Tryz.prog 48 #[.pointer (some ⟨B.p, 0, none⟩)] (via w16 e) fun e_1 w' => e_1 = .returned (.int .i64 0) ∧ Below (via w16 e).heap.size (via w16 e) w') := Lib.hid fun e => c_Odds (L16.out.below (via_below w16 e)) OUT.out.od
                have HOV : Hid (∀ e : Later w16, Calls Tryz.prog 47 #[.pointer (some ⟨X, 0, none⟩)] (via w16 e) fun e_1 w' => e_1 = .returned (.bool true) ∧ via w16 e = w') := Lib.hid fun e => by
                  have h := c_VcOver (X16.out.below L16.out.hi (via_below w16 e)) KZ.out
                  rw [OUT.out.ov] at h
                  exact h
                have hl13 := S16.out.lt
                clear hRS hmr
                refine wp_region_via (by kernel_rfl) (by kernel_rfl) ?_
                repeat (go_big_quiet_step ((first
                  | (go_at_call 47; exact viaS (HOV.out _))
                  | (go_at_call 44; exact viaB (HMS.out _))
                  | (go_at_call 48; exact viaB (HOD.out _)))))
                refine wpQuiet_nil ?_
                rintro _ ⟨e, rfl⟩
                obtain ⟨Wv, hWv⟩ : ∃ Wv, Wv = via w16 e := ⟨_, rfl⟩
                have hbv : Below w16.heap.size w16 Wv := by rw [hWv]; exact via_below w16 e
                rw [← hWv]
                have L17 := Lib.hid (L16.out.below hbv)
                have K17 := Lib.hid (K16.out.below hbv)
                have O17 := Lib.hid (O16.out.below hbv)
                have V17 := Lib.hid (V16.out.below hbv)
                have H17 := Lib.hid (H23b.out.below hbv)
                have N17 := Lib.hid (NN.out.below hbv)
                clear hWv hbv eqS ldS HMS HOD HOV hl13 L16 K16 O16 S16 X16 V16 H23b NN
                have v0 := V17.out.c 0 _ rfl
                have v1 := V17.out.c 1 _ rfl
                have v2 := V17.out.c 2 _ rfl
                have HS := c_Slot p L17.out.p HPO.out L17.out.hi
                rw [TG.out.1, TG.out.2] at HS
                have HS := Lib.hid HS
                have dk0 : decide ((k : Int) < 0) = false := decide_eq_false (by omega)
                go_wp2_with fail
                refine HS.out.mono ?_
                rintro e w18 ⟨rfl, hb18⟩
                clear v0 v1 v2 HS
                have L18 := Lib.hid (L17.out.below hb18)
                have K18 := Lib.hid (K17.out.below hb18)
                have O18 := Lib.hid (O17.out.below hb18)
                have V18 := Lib.hid (V17.out.below hb18)
                have H18 := Lib.hid (H17.out.below hb18)
                have N18 := Lib.hid (N17.out.below hb18)
                clear hb18 L17 K17 O17 V17 H17 N17
                obtain ⟨c0, c1, c2⟩ := O18.out.c k hkN
                rw [← HPE.out] at c0 c1 c2
                have v0 := V18.out.c 0 _ rfl
                have v1 := V18.out.c 1 _ rfl
                have v2 := V18.out.c 2 _ rfl
                have hkb0 : (0 : Int) ≤ (k : Int) := by omega
                have hkb1 : (k : Int) < (N : Int) := by omega
                have bn : ∀ q, Below w18.heap.size w18 (w18.drewN q) := fun q => ⟨rfl, rfl, rfl, Nat.le_refl _, fun _ _ => rfl⟩
                have BN := Lib.hid bn
                clear bn
                go_upto_region 41 with fail
                go_quiet (fail)
                obtain ⟨w19, hw19⟩ : ∃ w19, w19 = w18.drewN nq := ⟨_, rfl⟩
                have hb19 : Below w18.heap.size w18 w19 := by rw [hw19]; exact BN.out nq
                rw [← hw19]
                have L19 := Lib.hid (L18.out.below hb19)
                have K19 := Lib.hid (K18.out.below hb19)
                have V19 := Lib.hid (V18.out.below hb19)
                have H19 := Lib.hid (H18.out.below hb19)
                have N19 := Lib.hid (N18.out.below hb19)
                clear hw19 hb19 L18 K18 O18 V18 H18 N18 c0 c1 c2 v0 v1 v2 BN
                obtain ⟨RT, hRT⟩ : ∃ RT, RT = (ir .i64 (stC b s3.M A) 64).toArray := ⟨_, rfl⟩
                have hrow : (ir .i64 (stC b y.M A) 64).toArray = RT := by rw [hRT, ir64_congr (J := stC b s3.M A) (fun j hj => stC_same (fun i hi => YLO.out _ (by have := (plAt_ok b i).item; omega)) j)]
                have eqT : ∀ W, (Op.equalIn 10000 85 (.agg RT) (.agg RT)).run Tryz.prog W = .ok true W := fun W => by rw [hRT]; exact eq_ir64i _ W
                have ld7 : (ld64 ⟨X7, 0, none⟩).run Tryz.prog w19 = .ok RT w19 := by rw [hRT]; exact K19.out.ld (ir_len _ _ _)
                have ld23 : (ld64 ⟨X23, 0, none⟩).run Tryz.prog w19 = .ok RT w19 := by rw [← hrow]; exact H19.out.ld (ir_len _ _ _)
                have dl : ((y.nt.length : Int) == 0) = true := by rw [YNT.out]; rfl
                have er : (vcI b a o s3.M k == 0) = true := by simp [hz]
                have p0 := L19.out.p.wo.c0
                have HPK6 := L19.out.peek 6 (by decide) (by decide) w19 (Below.refl _ _)
                rw [YLO.out 6 (by decide), C6.out] at HPK6
                have HPK6 := Lib.hid HPK6
                clear hRT hrow
                go_wp2_with fail
                refine HPK6.out.mono ?_
                rintro e w' ⟨rfl, rfl⟩
                go_wp2_with fail
                refine (c_lives24 w19).mono ?_
                rintro e w20 ⟨rfl, hb20⟩
                go_wp2_with fail
                go_ret
                exact ⟨rfl, L19.out.bel.trans (hb20.mono L19.out.bel.size)⟩
              · obtain ⟨cz, y, z, hOUT, ⟨nn1, nn2, hynt⟩, hy6, hpi, hpt, hst⟩ := VoR.drop (A := A) FS.out hks VB.out hhb.1 hhb.2 V3.out HA.out (by rw [← HNE.out]; exact hkN) VS.out hz1 hz2 C6.out
                obtain ⟨p, hp⟩ : ∃ p, p = vcP b a o k := ⟨_, rfl⟩
                rw [← hp] at hOUT hynt hpi hpt
                have hpo : p.ok := by rw [hp]; exact VO.out.ok k (by omega)
                have hit40 := VO.out.bd k (by rw [← HNE.out]; exact hkN)
                obtain ⟨itn, hin⟩ : ∃ itn : Nat, (itn : Int) = vcI b a o s3.M k := ⟨(vcI b a o s3.M k).toNat, by omega⟩
                have hitb : 1 ≤ itn ∧ itn ≤ 40 := by omega
                rw [← hin] at hynt hst ⊢
                have OUT := Lib.hid hOUT
                have YNT := Lib.hid hynt
                have HY6 := Lib.hid hy6
                have HPE := Lib.hid hp
                have HPO := Lib.hid hpo
                have HST9 := Lib.hid hst
                have TG : Hid (twTag (y.M p.tags) p.s = 0 ∧ y.M p.item = 0) := Lib.hid ⟨hpt, hpi⟩
                clear hOUT hynt hy6 hpi hpt hst hp hpo hit40 hin hz1 hz2
                have p0 := L9.out.p.wo.c0
                have HPK6 := L9.out.peek 6 (by decide) (by decide) wr (Below.refl _ _)
                rw [C6.out] at HPK6
                have HPK6 := Lib.hid HPK6
                have HNV := Lib.hid (c_NewVictim (w := wr) (O := G9) (k := 20) b h (by omega) (by omega) hhb.1 hhb.2 (by decide) L9.out.hi)
                go_wp2_with fail
                refine HPK6.out.mono ?_
                rintro e w' ⟨rfl, rfl⟩
                clear HPK6
                go_wp2_with fail
                refine HNV.out.mono ?_
                rintro e w10 ⟨X, rfl, G10, e10, x10⟩
                have L10 := L9.out.ext e10 (by omega) (by omega) (by omega) (by omega)
                have K10 := Lib.hid (K9.out.ext e10 (by omega))
                have O10 := Lib.hid (O9.out.ext e10 (by omega))
                have S10 := Lib.hid (S9.out.ext e10 (by omega))
                have HRv := c_VcRun (k := 20) X (vcNew b h) 99 L10.p x10 (vcNew_ok b h hhb.1 hhb.2) (by decide) L10.hi V3.out.n0 (by have := V3.out.n1; omega)
                rw [OUT.out.run] at HRv
                dsimp only at HRv
                have HRv := Lib.hid HRv
                have L10 := Lib.hid L10
                clear e10 x10 HNV L9 K9 O9 S9 p0
                go_wp2_with fail
                refine HRv.out.mono ?_
                rintro e w11 ⟨rfl, G11, e11, P11, x11, k11⟩
                have L11 := Lib.hid (L10.out.to e11 P11)
                have K11 := Lib.hid (K10.out.ext e11 (by intro q; rcases q with q | q <;> omega))
                have O11 := Lib.hid (O10.out.ext e11 (sx0 (by decide)))
                have S11 := Lib.hid (S10.out.ext e11 (by intro q; rcases q with q | q <;> omega))
                have HG := c_VcGot x11
                rw [OUT.out.got] at HG
                unfold sptV at HG
                dsimp only at HG
                have HG := Lib.hid HG
                have X11 := Lib.hid x11
                have KZ := Lib.hid k11
                clear e11 P11 x11 k11 HRv L10 K10 O10 S10
                go_wp2_with fail
                refine HG.out.mono ?_
                rintro e w12 ⟨rfl, hb12⟩
                have hba := (Below.refl w12.heap.size w12).alloc (Nat.le_refl _) (.cells #[.int .i64 p.b, .int .i64 p.q, .int .i64 p.s] 45)
                have B13 : Hid (Below w11.heap.size w11 (w12.alloc (.cells #[.int .i64 p.b, .int .i64 p.q, .int .i64 p.s] 45))) := Lib.hid (hb12.trans (hba.mono hb12.size))
                obtain ⟨-, V13⟩ := alloc_nbH (S := SW) (L11.out.below hb12).hi #[.int .i64 p.b, .int .i64 p.q, .int .i64 p.s] 45 w12.heap.size rfl
                have V13 := Lib.hid V13
                clear hb12 hba HG
                go_upto_region 31 with fail
                obtain ⟨w13, hw13⟩ : ∃ W, W = w12.alloc (.cells #[.int .i64 p.b, .int .i64 p.q, .int .i64 p.s] 45) := ⟨_, rfl⟩
                rw [← hw13] at B13 V13 ⊢
                clear hw13
                obtain ⟨X21, hX21⟩ : ∃ X, X = w12.heap.size := ⟨_, rfl⟩
                rw [← hX21] at V13 ⊢
                clear hX21
                have L13 := Lib.hid (L11.out.below B13.out)
                have HST := Lib.hid (c_Stand (A := A) L13.out (by omega) (by omega) OUT.out.wd HA.out (by omega) (OUT.out.it.trans (V3.out.it.trans FS.out.it)) hks HKS.out OUT.out.st)
                go_wp2_with fail
                refine HST.out.mono ?_
                rintro e w14 ⟨rfl, hb14⟩
                have B14 : Hid (Below w11.heap.size w11 w14) := Lib.hid (B13.out.trans (hb14.mono B13.out.size))
                have V14 := Lib.hid (V13.out.below hb14)
                obtain ⟨R2, hR2⟩ : ∃ R2, R2 = (ir .i64 (stC b y.M A) 64).toArray := ⟨_, rfl⟩
                have hR2s : R2.size = 64 := by rw [hR2]; exact ir_size _ _ _
                have hR2a : R2.all (·.oneCell') = true := by rw [hR2]; exact ir_all _ _ _
                rw [← hR2]
                have HR2 := Lib.hid hR2
                obtain ⟨V2, hV2⟩ : ∃ V2, V2 = Value.agg R2 := ⟨_, rfl⟩
                rw [← hV2]
                have HV2 := Lib.hid hV2
                clear hR2 hb14 HST hV2 L13 V13 B13
                go_upto_region 32 with (first
                  | (refine wpList_store_row rfl 85 _ _ rfl w14.heap.size R2 rfl HV2.out 85 _ (heap_alloc_new _ _) (by rw [hR2s]; kernel_rfl) (by rw [hR2s]; rfl) hR2a ?_))
                have h7 := setRow_heap _ w14.heap.size _ R2 _ _ (heap_alloc_new w14 (.cells (List.replicate 64 (.int .i64 0)).toArray 85))
                have hbr := below_setRow ((Below.refl w14.heap.size w14).alloc (Nat.le_refl _) (.cells (List.replicate 64 (.int .i64 0)).toArray 85)) (Nat.le_refl w14.heap.size) R2
                generalize hW5 : World.setRow (World.alloc w14 _) _ R2 = w15
                have hW6 : (w14.alloc (.cells (List.replicate 64 (.int .i64 0)).toArray 85)).setRow w14.heap.size R2 = w15 := hW5
                clear hW5
                rw [hW6] at h7 hbr
                clear hW6
                obtain ⟨X23, hX23⟩ : ∃ X, X = w14.heap.size := ⟨_, rfl⟩
                have B15 : Hid (Below w11.heap.size w11 w15) := Lib.hid (B14.out.trans (hbr.mono B14.out.size))
                have hx723 : X7 ≠ X23 := by have := K11.out.lt; have := B14.out.size; omega
                have hx715 : X7 < w15.heap.size := Nat.lt_of_lt_of_le K11.out.lt B15.out.size
                have H23 : Hid (w15.heap[X23]? = some (.cells (ir .i64 (stC b y.M A) 64).toArray 85 (0, 0))) := Lib.hid (by rw [hX23, h7, HR2.out])
                have V15 := Lib.hid (V14.out.below hbr)
                have GX23 : Hid (G11 X23 = 0) := Lib.hid (Classical.byContradiction fun q => by
                  have hq1 := L11.out.hi X23 q
                  have hq2 := B14.out.size
                  omega)
                rw [← hX23]
                clear hX23 h7 hbr HV2 hR2s hR2a V14 B14
                have L15 := Lib.hid (L11.out.below B15.out)
                obtain ⟨vn, hn, -⟩ := L15.out.p.no.ex
                obtain ⟨an, cn, rfl, -, -⟩ := (Arr.of_own hn.own).shape
                have HAL := Lib.hid (c_NtAll B.np _ y.nt w15 hn.head hn.lt (Arr.of_own hn.own) (by have := OUT.out.nl; omega))
                have p2 := L15.out.p.wo.c2
                clear hn
                go_wp2_with fail
                refine HAL.out.mono ?_
                rintro e w16 ⟨⟨v', rfl, hnn⟩, hb16⟩
                have B16 : Hid (Below w11.heap.size w11 w16) := Lib.hid (B15.out.trans (hb16.mono B15.out.size))
                have V16 := Lib.hid (V15.out.below hb16)
                have H23b : Hid (Bk w16 (fun _ => 0) 0 X23 85 (ir .i64 (stC b y.M A) 64)) := Lib.hid (Bk.below (W := w15) ⟨rfl, H23.out⟩ hb16)
                obtain ⟨ao, rfl⟩ := hnn.shape
                have NN := Lib.hid hnn.arr
                have NFR := Lib.hid hnn.fresh
                clear hb16 hnn HAL p2 L15 V15 H23 B15
                have L16 := Lib.hid (L11.out.below B16.out)
                have K16 := Lib.hid (K11.out.below B16.out)
                have O16 := Lib.hid (O11.out.below B16.out)
                have S16 := Lib.hid (S11.out.below B16.out)
                have X16 := Lib.hid (X11.out.below L11.out.hi B16.out)
                clear L11 K11 O11 S11 X11 B16
                go_upto_region 33 with fail
                obtain ⟨RS, hRS⟩ : ∃ RS, RS = (ir .u64 (mkI (vcM b a o s3.M k)) 64).toArray := ⟨_, rfl⟩
                have hmr : (ir .u64 (mkI y.M) 64).toArray = RS := by rw [hRS, ir64_congr OUT.out.mi]
                have eqS : ∀ W, (Op.equalIn 10000 36 (.agg RS) (.agg RS)).run Tryz.prog W = .ok true W := fun W => by rw [hRS]; exact eq_ir64u _ W
                have ldS : ∀ e : Later w16, (ld64 ⟨X13, 0, none⟩).run Tryz.prog (via w16 e) = .ok RS (via w16 e) := fun e => by rw [hRS]; exact (S16.out.below (via_below w16 e)).ld (ir_len _ _ _)
                have HMS : Hid (∀ e : Later w16, Calls Tryz.prog 44 #[.pointer (some ⟨B.p, 0, none⟩)] (via w16 e) fun e_1 w' => e_1 = .returned (.agg RS) ∧ Below (via w16 e).heap.size (via w16 e) w') := Lib.hid fun e => by rw [← hmr]; exact c_marks (L16.out.below (via_below w16 e))
                have HOD : Hid (∀ e : Later w16, Calls Tryz.prog 48 #[.pointer (some ⟨B.p, 0, none⟩)] (via w16 e) fun e_1 w' => e_1 = .returned (.int .i64 0) ∧ Below (via w16 e).heap.size (via w16 e) w') := Lib.hid fun e => c_Odds (L16.out.below (via_below w16 e)) OUT.out.od
                have HOV : Hid (∀ e : Later w16, Calls Tryz.prog 47 #[.pointer (some ⟨X, 0, none⟩)] (via w16 e) fun e_1 w' => e_1 = .returned (.bool true) ∧ via w16 e = w') := Lib.hid fun e => by
                  have h := c_VcOver (X16.out.below L16.out.hi (via_below w16 e)) KZ.out
                  rw [OUT.out.ov] at h
                  exact h
                have hl13 := S16.out.lt
                clear hRS hmr
                refine wp_region_via (by kernel_rfl) (by kernel_rfl) ?_
                repeat (go_big_quiet_step ((first
                  | (go_at_call 47; exact viaS (HOV.out _))
                  | (go_at_call 44; exact viaB (HMS.out _))
                  | (go_at_call 48; exact viaB (HOD.out _)))))
                refine wpQuiet_nil ?_
                rintro _ ⟨e, rfl⟩
                obtain ⟨Wv, hWv⟩ : ∃ Wv, Wv = via w16 e := ⟨_, rfl⟩
                have hbv : Below w16.heap.size w16 Wv := by rw [hWv]; exact via_below w16 e
                rw [← hWv]
                have L17 := Lib.hid (L16.out.below hbv)
                have K17 := Lib.hid (K16.out.below hbv)
                have O17 := Lib.hid (O16.out.below hbv)
                have V17 := Lib.hid (V16.out.below hbv)
                have H17 := Lib.hid (H23b.out.below hbv)
                have N17 := Lib.hid (NN.out.below hbv)
                clear hWv hbv eqS ldS HMS HOD HOV hl13 L16 K16 O16 S16 X16 V16 H23b NN
                have v0 := V17.out.c 0 _ rfl
                have v1 := V17.out.c 1 _ rfl
                have v2 := V17.out.c 2 _ rfl
                have HS := c_Slot p L17.out.p HPO.out L17.out.hi
                rw [TG.out.1, TG.out.2] at HS
                have HS := Lib.hid HS
                have dk0 : decide ((k : Int) < 0) = false := decide_eq_false (by omega)
                go_wp2_with fail
                refine HS.out.mono ?_
                rintro e w18 ⟨rfl, hb18⟩
                clear v0 v1 v2 HS
                have L18 := Lib.hid (L17.out.below hb18)
                have K18 := Lib.hid (K17.out.below hb18)
                have O18 := Lib.hid (O17.out.below hb18)
                have V18 := Lib.hid (V17.out.below hb18)
                have H18 := Lib.hid (H17.out.below hb18)
                have N18 := Lib.hid (N17.out.below hb18)
                clear hb18 L17 K17 O17 V17 H17 N17
                obtain ⟨c0, c1, c2⟩ := O18.out.c k hkN
                rw [← HPE.out] at c0 c1 c2
                have v0 := V18.out.c 0 _ rfl
                have v1 := V18.out.c 1 _ rfl
                have v2 := V18.out.c 2 _ rfl
                have hkb0 : (0 : Int) ≤ (k : Int) := by omega
                have hkb1 : (k : Int) < (N : Int) := by omega
                have bn : ∀ q, Below w18.heap.size w18 (w18.drewN q) := fun q => ⟨rfl, rfl, rfl, Nat.le_refl _, fun _ _ => rfl⟩
                have BN := Lib.hid bn
                clear bn
                go_upto_region 41 with fail
                go_quiet (fail)
                obtain ⟨w19, hw19⟩ : ∃ w19, w19 = w18.drewN nq := ⟨_, rfl⟩
                have hb19 : Below w18.heap.size w18 w19 := by rw [hw19]; exact BN.out nq
                rw [← hw19]
                have L19 := Lib.hid (L18.out.below hb19)
                have K19 := Lib.hid (K18.out.below hb19)
                have V19 := Lib.hid (V18.out.below hb19)
                have H19 := Lib.hid (H18.out.below hb19)
                have N19 := Lib.hid (N18.out.below hb19)
                clear hw19 hb19 L18 K18 O18 V18 H18 N18 c0 c1 c2 v0 v1 v2 BN
                have er : ((itn : Int) == 0) = false := beq_false_of_ne (by omega)
                have a0 := cell_of_blk (j := itn) K19.out.h (ir64_get (by omega))
                have f0 := froz_of_blk itn K19.out.h
                obtain ⟨cur, hcur⟩ : ∃ cur, cur = stC b s3.M A itn := ⟨_, rfl⟩
                rw [← hcur] at a0
                have hcb := stC_bd b s3.M A itn
                rw [← hcur] at hcb
                have hnb0 : (0 : Int) ≤ (itn : Int) := by omega
                have hnb1 : (itn : Int) < 64 := by omega
                obtain ⟨RT, hRT⟩ : ∃ RT, RT = (ir .i64 (stC b y.M A) 64).toArray := ⟨_, rfl⟩
                have e20 : Ext (fun t => t = 50) G11 w19 G11 (w19.setCell ⟨X7, itn, none⟩ (.int .i64 (cur - 1))) := Ext.of_set (S := fun t => t = 50) L19.out.hi K19.out.o (show (50 : Nat) ≠ 0 by decide) rfl
                have L20 := Lib.hid (L19.out.ext e20 (by decide) (by decide) (by decide) (by decide))
                have V20 := Lib.hid (V19.out.ext e20 (by decide))
                have K20 : Hid (Bk (w19.setCell ⟨X7, itn, none⟩ (.int .i64 (cur - 1))) G11 50 X7 85 (ir .i64 (stC b y.M A) 64)) := Lib.hid ⟨K19.out.o, by
                  rw [blk_set K19.out.h, ir64_put (J := stC b y.M A) (by omega) (by rw [HST9.out itn, if_pos rfl, hcur]) (fun j hj hne => by rw [HST9.out j, if_neg (by omega), Int.sub_zero])]⟩
                have H20 : Hid (Bk (w19.setCell ⟨X7, itn, none⟩ (.int .i64 (cur - 1))) (fun _ => 0) 0 X23 85 (ir .i64 (stC b y.M A) 64)) := Lib.hid ⟨rfl, by
                  rw [heap_setCell_other _ _ _ _ (by show X23 ≠ X7; exact Ne.symm hx723)]; exact H19.out.h⟩
                have hyl : y.nt.length = 1 := by rw [YNT.out]; rfl
                obtain ⟨Ab, ob, cb, heb, -, -, hltb, hxb⟩ := N19.out.open (by omega) (by omega)
                have hfr := (NFR.out _ _ _ heb).1
                cases heb
                have hxa : Ab ≠ X7 := by dsimp only at hfr; omega
                rw [YNT.out] at hxb
                have HC : Hid (∀ t u, (ntc ⟨nn1, nn2, 1, itn, p.b, p.q, p.s, 0⟩)[t]? = some u → (w19.setCell ⟨X7, itn, none⟩ (.int .i64 (cur - 1))).cell? ⟨Ab, ob + t, none⟩ = some u) := Lib.hid fun t u hu => (World.cell?_setCell_other _ _ _ _ (by simp <;> omega)).trans (hxb t u (by rw [show rowOf ntc [(⟨nn1, nn2, 1, itn, p.b, p.q, p.s, 0⟩ : Nt)] = ntc ⟨nn1, nn2, 1, itn, p.b, p.q, p.s, 0⟩ ++ [] from rfl, List.append_nil]; exact hu))
                have HCU := Lib.hid hcur
                have HRT := Lib.hid hRT
                clear hxb hfr e20 hcur hRT
                go_upto_region 46 with fail
                obtain ⟨w20, hw20⟩ : ∃ W, W = w19.setCell ⟨X7, itn, none⟩ (.int .i64 (cur - 1)) := ⟨_, rfl⟩
                rw [← hw20] at L20 V20 K20 H20 HC ⊢
                have hsz20 : w19.heap.size ≤ w20.heap.size := by rw [hw20]; simp
                clear hw20 a0 f0 L19 K19 V19 H19 N19
                have n2 := HC.out 2 _ rfl
                have n3 := HC.out 3 _ rfl
                have n4 := HC.out 4 _ rfl
                have n5 := HC.out 5 _ rfl
                have n6 := HC.out 6 _ rfl
                have hlb : Ab < w20.heap.size := Nat.lt_of_lt_of_le hltb hsz20
                have v0 := V20.out.c 0 _ rfl
                have v1 := V20.out.c 1 _ rfl
                have v2 := V20.out.c 2 _ rfl
                have hlv := V20.out.lt
                have p0 := L20.out.c0 w20 (Below.refl _ _)
                have hlp := L20.out.p.wo.lt
                have dl : ((y.nt.length : Int) == 1) = true := by rw [hyl]; rfl
                have hl0 : (0 : Int) < (y.nt.length : Int) := by omega
                have hw1 : IntKind.u64.wrap (-1) = 18446744073709551615 := by decide
                have eqT : ∀ W, (Op.equalIn 10000 85 (.agg RT) (.agg RT)).run Tryz.prog W = .ok true W := fun W => by rw [HRT.out]; exact eq_ir64i _ W
                have ld7 : ∀ e : Later w20, (ld64 ⟨X7, 0, none⟩).run Tryz.prog (via w20 e) = .ok RT (via w20 e) := fun e => by rw [HRT.out]; exact (K20.out.below (via_below w20 e)).ld (ir_len _ _ _)
                have ld23 : ∀ e : Later w20, (ld64 ⟨X23, 0, none⟩).run Tryz.prog (via w20 e) = .ok RT (via w20 e) := fun e => by rw [HRT.out]; exact (H20.out.below (via_below w20 e)).ld (ir_len _ _ _)
                have HPK : Hid (∀ e : Later w20, Calls Tryz.prog 16 #[.pointer (some ⟨B.c, 0, none⟩), .int .u64 6] (via w20 e) fun e_1 w' => e_1 = .returned (.int .u64 18446744073709551615) ∧ via w20 e = w') := Lib.hid fun e => by
                  have h := L20.out.peek 6 (by decide) (by decide) _ (via_below w20 e)
                  rw [HY6.out] at h
                  exact h
                clear hyl
                refine wp_region_via (by kernel_rfl) (by kernel_rfl) ?_
                repeat (go_big_quiet_step ((first
                  | (go_at_call 16; exact viaS (HPK.out _))
                  | (go_at_call 34; exact viaB (c_lives24 _)))))
                refine wpQuiet_nil ?_
                rintro _ ⟨e, rfl⟩
                go_wp2_with fail
                go_ret
                exact ⟨rfl, L20.out.bel.trans ((via_below w20 e).mono L20.out.bel.size)⟩
end Go.Proofs.YtlcibfpibklbdaaGreat
