/- Layer 20: the chapter's example. -/
import Derived.Test.YtlcibfpibklbdaaGreatMz
import Derived.Test.YtlcibfpibklbdaaGreatSlo
namespace Go.Proofs.YtlcibfpibklbdaaGreat
set_option linter.unusedSimpArgs false
open Go.RowKit Go.Shelf
set_option linter.unusedVariables false

def lmI : It := ⟨⟨#[97]⟩, ⟨#[]⟩, 0, 0, 0, 0⟩
def lmH : Int := fnvHash (⟨#[97]⟩ : ByteArray).data.toList
def lm0 : AW := awStore 2 513 (aw0 1)
def lmA (i : Nat) : AW := ⟨lm0.M, lm0.n, lm0.la, lm0.tk, lm0.ho, List.replicate i lmI, lm0.nt⟩
def lmF : Spt := ⟨1, 1, 2⟩
def lmT : Spt := ⟨2, 0, 0⟩
def lmP : Nat × (AW × Otm) := runN ptOver (fun z => putStep lmF 175 5 z.1 z.2) 9 (lmA 5, ⟨0, 0⟩)
def lmY : AW × Mvm := (lmP.2.1, mvNew 513 1)
def lmR : Nat × (AW × Mvm) := runN mvOver (mvStep 16) 99 lmY
theorem lmF_ok : lmF.ok := by constructor <;> decide
theorem lmT_ok : lmT.ok := by constructor <;> decide
theorem lm_h : 0 ≤ lmH ∧ lmH < 18446744073709551616 ∧ fnvTag lmH = 175 ∧ fnvBucket lmH 2 = 0 := by decide +kernel
theorem lm_pre : ∀ i : Nat, i < 16 → MvPre (mvIt 16 i lmY) := by decide +kernel
theorem lm_ov : mvOver (mvIt 16 16 lmY).2 = true ∧ ∀ i : Nat, i < 17 → 0 ≤ (mvIt 16 i lmY).2.ln ∧ (mvIt 16 i lmY).2.ln ≤ 11 := by decide +kernel
theorem lm_f : lmR.1 = 16 ∧ lmR.2.2.lost = 0 ∧ twTag (lmR.2.1.M lmT.tags) 0 = 175 ∧ lmR.2.1.M lmT.item = 5 ∧ twTag (lmR.2.1.M lmF.tags) 2 = 0 ∧ lmR.2.1.M lmF.item = 0 := by decide +kernel
theorem lm_n : (0 ≤ lmP.2.1.n ∧ lmP.2.1.n ≤ 1000) ∧ (0 ≤ lm0.n ∧ lm0.n ≤ 1000) ∧ plWord 1 2 = 513 := by decide +kernel
theorem PW.addIt {w w' : World} {O O' : Om} {B : Wb} {f : Cf} {s : AW} {x : It} (h : PW w O B f s) (e : Ext (fun t => t = 3) O w O' w') (ha : Ar w' O' 3 B.ip (s.it ++ [x])) : PW w' O' B f ⟨s.M, s.n, s.la, s.tk, s.ho, s.it ++ [x], s.nt⟩ :=
  ⟨(e.lo _ h.wo.lt).trans h.o, h.wo.wrote e.wr (fun k => absurd (show (1 : Nat) = 3 from by have := k.1; rwa [h.o] at this) (by decide)), h.ce.ext e (by decide) (by decide), ha, h.no.ext e (by decide)⟩
set_option maxHeartbeats 8000000 in
set_option maxRecDepth 100000 in
theorem c_lives20 (w : World) : Calls Tryz.prog 56 #[] w fun e w' => e = .returned (.bool true) ∧ Below w.heap.size w w' := by
  have FF := Lib.hid lm_f
  have NN := Lib.hid lm_n
  have LH := Lib.hid lm_h
  have HH := Lib.hid (fun W => c_Hash ⟨#[97]⟩ W (by unfold maxLen; decide))
  have hlm : fnvHash (⟨#[97]⟩ : ByteArray).data.toList = lmH := rfl
  rw [hlm] at HH
  clear hlm
  obtain ⟨h, hh⟩ : ∃ h, h = lmH := ⟨_, rfl⟩
  rw [← hh] at LH HH
  clear hh
  go_enter Tryz.func56, Tryz.ntmps56
  go_wp2_with fail
  refine (c_WorldP 1 w (by decide) (by decide)).mono ?_
  rintro e w1 ⟨B, O1, rfl, hP, hE⟩
  have P1 := Lib.hid hP
  have E1 := Lib.hid hE
  have p0 := hP.wo.c0
  have HW := Lib.hid (fun W => c_Word 1 2 W)
  rw [NN.out.2.2] at HW
  have HSt := Lib.hid (c_StoreP 2 513 (w := w1.drew) (P1.out.below E1.out.hi (drew_below w1)) (fun j hj => E1.out.hi j hj) (by decide) (by decide) (by decide) (by decide) (by decide) (by decide))
  have HD : Hid (Ext SW O1 w1 O1 w1.drew) := Lib.hid (Ext.of_below E1.out.hi (drew_below w1))
  clear hP hE
  go_wp2_with fail
  go_region_held3 (fun w' => w'.cell? ⟨B.p, 0, none⟩ = some (.pointer (some ⟨B.c, 0, none⟩))) (go_keep)
    ((first
      | (go_at_call 114
         refine (HW.out _).mono ?_
         rintro e w' ⟨rfl, rfl⟩)
      | (go_at_call 39
         refine HSt.out.mono ?_
         rintro e w2 ⟨rfl, O2, e2, P2⟩
         have E2 := Lib.hid (E1.out.ext (HD.out.trans e2))
         have p02 := P2.wo.c0
         have P2 : Hid (PW w2 O2 B ⟨1, 8, 3, 1, 16⟩ (lmA 0)) := Lib.hid P2
         clear e2)))
  all_goals
    clear p0 p02
    go_upto_region 5 with fail
    go_wp2_with fail
    go_loopw [2] (fun iv wr => ∃ (i : Nat) (G : Om), iv = .int .i64 i ∧ i ≤ 5 ∧ PW wr G B ⟨1, 8, 3, 1, 16⟩ (lmA i) ∧ Env w G wr) (fun iv _ => 5 - (intOf iv).toNat)
    case atStart => exact ⟨0, O2, rfl, by omega, P2.out, E2.out⟩
    case round =>
      clear P2 E2 HSt HD P1 E1
      obtain ⟨i, G, rfl, hi, hP, hE⟩ := hrel
      have P5 := Lib.hid hP
      have E5 := Lib.hid hE
      clear hP hE
      by_cases hi5 : i < 5
      · have p1 := P5.out.wo.c1
        have HA := Lib.hid (c_IAdd lmI P5.out.ar (by decide) (by show (List.replicate i lmI).length ≤ 1000000; rw [List.length_replicate]; omega) E5.out.hi)
        have hrs : (lmA i).it ++ [lmI] = List.replicate (i + 1) lmI := by show List.replicate i lmI ++ [lmI] = _; rw [List.replicate_succ']
        have HRS := Lib.hid hrs
        clear hrs
        go_wp2_with fail
        refine HA.out.mono ?_
        rintro e w6 ⟨rfl, O6, e6, a6⟩
        have P6 := P5.out.addIt e6 a6
        rw [HRS.out] at P6
        have P6 : Hid (PW w6 O6 B ⟨1, 8, 3, 1, 16⟩ (lmA (i + 1))) := Lib.hid P6
        have E6 := Lib.hid (E5.out.ext e6)
        clear e6 a6 p1 HA
        go_wp2_with fail
        go_roundw
        case rel => exact ⟨i + 1, O6, by go_num, by omega, P6.out, E6.out⟩
        case measure => simp [intOf]; omega
      · have h5 : i = 5 := by omega
        subst h5
        have NA := Lib.hid (show 0 ≤ (lmA 5).n ∧ (lmA 5).n + 9 ≤ 4611686018427387904 from ⟨NN.out.2.1.1, by have := NN.out.2.1.2; show lm0.n + 9 ≤ _; omega⟩)
        go_wp2_with fail
        refine (HH.out _).mono ?_
        rintro e w7 ⟨rfl, hw7⟩
        have hb7 : Below wr.heap.size wr w7 := by rw [← hw7]; exact (Below.refl _ _).alloc (Nat.le_refl _) _
        have P7 := Lib.hid (P5.out.below E5.out.hi hb7)
        have E7 := Lib.hid (E5.out.ext (Ext.of_below (S := SW) E5.out.hi hb7))
        obtain ⟨e8, t8⟩ := alloc_nbH (S := SW) E7.out.hi #[.int .i64 1, .int .i64 1, .int .i64 2] 45 w7.heap.size rfl
        have P8 := Lib.hid (P7.out.below E7.out.hi ((Below.refl _ _).alloc (Nat.le_refl _) (.cells #[.int .i64 1, .int .i64 1, .int .i64 2] 45)))
        have E8 := Lib.hid (E7.out.ext e8)
        have T8 := Lib.hid t8
        clear hw7 hb7 e8 t8 P5 E5
        go_upto_region 11 with fail
        obtain ⟨W8, hW8⟩ : ∃ W, W = w7.alloc (.cells #[.int .i64 1, .int .i64 1, .int .i64 2] 45) := ⟨_, rfl⟩
        rw [← hW8] at P8 E8 T8 ⊢
        obtain ⟨N, hN⟩ : ∃ N, N = w7.heap.size := ⟨_, rfl⟩
        rw [← hN] at T8 ⊢
        clear hW8 hN P7 E7
        have HTG := Lib.hid (fun W => c_fTag h W LH.out.1 LH.out.2.1)
        rw [LH.out.2.2.1] at HTG
        have t0 := T8.out.c 0 _ rfl
        have t1 := T8.out.c 1 _ rfl
        have t2 := T8.out.c 2 _ rfl
        have hbw : Below W8.heap.size W8 W8.drew := drew_below W8
        have P9 := Lib.hid (P8.out.below E8.out.hi hbw)
        have E9 := Lib.hid (E8.out.ext (Ext.of_below (S := SW) E8.out.hi hbw))
        have T9 := Lib.hid (T8.out.below hbw)
        have HNP := Lib.hid (c_NewPut (k := 10) (p := lmF) (tg := 175) (rf := 5) (w := W8.drew) (O := G) lmF_ok E9.out.hi (by decide) (by decide) (by decide) (by decide))
        clear hbw
        go_region_held3 (fun w' => w'.cell? ⟨N, 0, none⟩ = some (.int .i64 1) ∧ w'.cell? ⟨N, 1, none⟩ = some (.int .i64 1) ∧ w'.cell? ⟨N, 2, none⟩ = some (.int .i64 2)) (go_keep)
          ((first
            | (go_at_call 92
               refine (HTG.out _).mono ?_
               rintro e w' ⟨rfl, rfl⟩)
            | (go_at_call 71
               refine HNP.out.mono ?_
               rintro e wa ⟨U, rfl, Oa, ea, ua⟩
               have PA := P9.out.ext ea (by decide) (by decide) (by decide) (by decide)
               have EA := Lib.hid (E9.out.ext ea)
               have TA := Lib.hid (T9.out.ext ea (by decide))
               have ta0 := TA.out.c 0 _ rfl
               have ta1 := TA.out.c 1 _ rfl
               have ta2 := TA.out.c 2 _ rfl
               have HR := Lib.hid (c_PuRun (k := 10) U lmF 175 5 9 PA ua lmF_ok (by decide) EA.out.hi NA.out.1 NA.out.2 (by decide) (by decide) (by decide) (by decide))
               clear ea ua PA)
            | (go_at_call 21
               refine HR.out.mono ?_
               rintro e wb ⟨rfl, Ob', eb, PB⟩
               have EB := Lib.hid (EA.out.ext eb)
               have TB := Lib.hid (TA.out.ext eb (sx0 (by decide)))
               have PB : Hid (PW wb Ob' B ⟨1, 8, 3, 1, 16⟩ lmP.2.1) := Lib.hid PB
               have tb0 := TB.out.c 0 _ rfl
               have tb1 := TB.out.c 1 _ rfl
               have tb2 := TB.out.c 2 _ rfl
               clear eb)))
        all_goals
          clear t0 t1 t2 ta0 ta1 ta2 tb0 tb1 tb2 P9 E9 T9 HNP HR EA TA P8 E8 T8
          go_wp2_with fail
          refine (HW.out _).mono ?_
          rintro e w' ⟨rfl, rfl⟩
          go_wp2_with fail
          refine (c_NewMove (k := 10) 513 1 (by decide) (by decide) (by decide) (by decide) (by decide) EB.out.hi).mono ?_
          rintro e wc ⟨X, rfl, Oc, ec, xc⟩
          have PC := PB.out.ext ec (by decide) (by decide) (by decide) (by decide)
          have EC := Lib.hid (EB.out.ext ec)
          have TC := Lib.hid (TB.out.ext ec (by decide))
          have HMR := Lib.hid (c_MvRun (k := 10) X (mvNew 513 1) 99 16 16 lm_pre lm_ov.1 (fun i hi => lm_ov.2 i (by omega)) PC xc (by decide) EC.out.hi NN.out.1.1 (by have := NN.out.1.2; omega))
          clear ec xc PC
          go_wp2_with fail
          refine HMR.out.mono ?_
          rintro e wd ⟨rfl, Od, ed, PD, xd⟩
          have h16 : (runN mvOver (mvStep 16) 99 (lmP.2.1, mvNew 513 1)).1 = 16 := FF.out.1
          rw [h16]
          have ED := Lib.hid (EC.out.ext ed)
          have TD := Lib.hid (TC.out.ext ed (sx0 (by decide)))
          have PD : Hid (PW wd Od B ⟨1, 8, 3, 1, 16⟩ lmR.2.1) := Lib.hid PD
          have XD : Hid (MvAt wd Od 10 X lmR.2.2) := Lib.hid xd
          have HBK := Lib.hid (fun W => c_fBucket h 2 W LH.out.1 LH.out.2.1 (by decide) (by decide))
          rw [LH.out.2.2.2] at HBK
          clear ed xd h16 HMR EB TB PB EC TC
          go_wp2_with fail
          refine (HBK.out _).mono ?_
          rintro e w' ⟨rfl, rfl⟩
          obtain ⟨ee, te⟩ := alloc_nbH (S := SW) ED.out.hi #[.int .i64 2, .int .i64 0, .int .i64 0] 45 wd.heap.size rfl
          have hbe := (Below.refl wd.heap.size wd).alloc (Nat.le_refl _) (.cells #[.int .i64 2, .int .i64 0, .int .i64 0] 45)
          have PE := Lib.hid (PD.out.below ED.out.hi hbe)
          have EE := Lib.hid (ED.out.ext ee)
          have TE := Lib.hid te
          have TF := Lib.hid (TD.out.below hbe)
          have XE := Lib.hid (XD.out.below ED.out.hi hbe)
          clear ee te hbe
          go_upto_region 15 with fail
          obtain ⟨we, hwe⟩ : ∃ W, W = wd.alloc (.cells #[.int .i64 2, .int .i64 0, .int .i64 0] 45) := ⟨_, rfl⟩
          rw [← hwe] at PE EE TE TF XE ⊢
          obtain ⟨M, hM⟩ : ∃ N, N = wd.heap.size := ⟨_, rfl⟩
          rw [← hM] at TE ⊢
          clear hwe hM PD ED TD XD
          have te0 := TE.out.c 0 _ rfl
          have te1 := TE.out.c 1 _ rfl
          have te2 := TE.out.c 2 _ rfl
          have HS1 := c_Slot (p := lmT) PE.out lmT_ok EE.out.hi
          have hs0 : lmT.s = 0 := rfl
          rw [hs0, FF.out.2.2.1, FF.out.2.2.2.1] at HS1
          have HS1 := Lib.hid HS1
          clear hs0
          go_wp2_with fail
          refine HS1.out.mono ?_
          rintro e wf ⟨rfl, hbf⟩
          have PF := Lib.hid (PE.out.below EE.out.hi hbf)
          have EF := Lib.hid (EE.out.ext (Ext.of_below (S := SW) EE.out.hi hbf))
          have TG := Lib.hid (TF.out.below hbf)
          have XF := Lib.hid (XE.out.below EE.out.hi hbf)
          have tf0 := TG.out.c 0 _ rfl
          have tf1 := TG.out.c 1 _ rfl
          have tf2 := TG.out.c 2 _ rfl
          have HS2 := c_Slot (p := lmF) PF.out lmF_ok EF.out.hi
          have hs2 : lmF.s = 2 := rfl
          rw [hs2, FF.out.2.2.2.2.1, FF.out.2.2.2.2.2] at HS2
          have HS2 := Lib.hid HS2
          clear hs2 hbf te0 te1 te2 HS1 PE EE TE TF XE
          go_wp2_with fail
          refine HS2.out.mono ?_
          rintro e wg ⟨rfl, hbg⟩
          have EG := Lib.hid (EF.out.ext (Ext.of_below (S := SW) EF.out.hi hbg))
          have HL := c_MvLost (XF.out.below EF.out.hi hbg)
          rw [FF.out.2.1] at HL
          have HL := Lib.hid HL
          clear hbg tf0 tf1 tf2 HS2 PF EF TG XF
          go_wp2_with fail
          refine HL.out.mono ?_
          rintro e w' ⟨rfl, rfl⟩
          go_wp2_with fail
          refine (HTG.out _).mono ?_
          rintro e w' ⟨rfl, rfl⟩
          go_wp2_with fail
          go_ret
          exact ⟨rfl, EG.out.bel⟩
end Go.Proofs.YtlcibfpibklbdaaGreat
