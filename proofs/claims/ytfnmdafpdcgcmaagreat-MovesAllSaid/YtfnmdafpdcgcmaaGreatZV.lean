/- Layer 20: a Run of a Move, whatever it meets. Layer 20: MovesAll. -/
import Derived.Test.YtfnmdafpdcgcmaaGreatZX
import Derived.Test.YtfnmdafpdcgcmaaGreatZ9
import Derived.Test.YtfnmdafpdcgcmaaGreatZT
import Derived.Test.YtfnmdafpdcgcmaaGreatZK
namespace Go.Proofs.YtfnmdafpdcgcmaaGreat
set_option linter.unusedSimpArgs false
section
set_option linter.unusedVariables false
open Go.RowKit Go.Shelf
theorem it_out (p : Spt) (s : AW) (o : Otm) : (outStep p s o).1.it = s.it := by unfold outStep; (repeat' split); all_goals rfl
theorem it_put (p : Spt) (tg rf : Int) (s : AW) (o : Otm) : (putStep p tg rf s o).1.it = s.it := by unfold putStep; (repeat' split); all_goals rfl
theorem it_wy (x : AW × Wym) : (wyStep x).1.it = x.1.it := by unfold wyStep; (repeat' split); all_goals rfl
theorem it_ho (x : AW × Hom) : (hoStep x).1.it = x.1.it := by
 unfold hoStep
 repeat' split
 all_goals first | rfl | exact it_out _ _ _ | exact it_put _ _ _ _ _
theorem it_rm (mo : Int) (x : AW × Rmm) : (rmStep mo x).1.it = x.1.it := by
 unfold rmStep
 repeat' split
 all_goals (try dsimp only)
 all_goals (try split)
 all_goals first | rfl | exact it_wy (x.1, x.2.wy) | exact it_ho (x.1, x.2.ho)
theorem it_mv (mo : Int) (s : AW) (z : Mvm) : (mvStep mo (s, z)).1.it = s.it := by
 by_cases g1 : z.ln = 1
 · rw [mvStep_1 _ _ _ g1]; rfl
 by_cases g2 : z.ln = 2
 · rw [mvStep_2 _ _ _ g2]; rfl
 by_cases g3 : z.ln = 3
 · rw [mvStep_3 _ _ _ g3]; exact it_rm mo (s, z.rm)
 by_cases g4 : z.ln = 4
 · rw [mvStep_4 _ _ _ g4]; rfl
 by_cases g5 : z.ln = 5
 · rw [mvStep_5 _ _ _ g5]; exact it_out _ _ _
 by_cases g6 : z.ln = 6
 · rw [mvStep_6 _ _ _ g6]; exact it_put _ _ _ _ _
 by_cases g7 : z.ln = 7
 · rw [mvStep_7 _ _ _ g7]; rfl
 by_cases g8 : z.ln = 8
 · rw [mvStep_8 _ _ _ g8]; rfl
 by_cases g9 : z.ln = 9
 · rw [mvStep_9 _ _ _ g9]
   dsimp only
   split
   · exact it_out z.p s z.o
   · exact it_out z.p s z.o
 by_cases g10 : z.ln = 10
 · rw [mvStep_10 _ _ _ g10]; rfl
 by_cases g11 : z.ln = 11
 · rw [mvStep_11 _ _ _ g11]; rfl
 unfold mvStep
 dsimp only
 rw [if_neg g1, if_neg g2, if_neg g3, if_neg g4, if_neg g5, if_neg g6, if_neg g7, if_neg g8, if_neg g9, if_neg g10, if_neg g11]
theorem c_MvRunF {w : World} {O : Om} {B : Wb} {f : Cf} {s : AW} {k : Nat} (X : Nat) (z : Mvm) (m : Nat) (hz : MvOk z) (l0 : 0 ≤ z.lost) (l1 : z.lost ≤ z.p.s) (hil : s.it.length ≤ 1000000) (hks : ∀ r, (itOf s.it r).key.size ≤ maxLen)
 (hP : PW w O B f s) (hX : MvAt w O k X z) (hk : 10 ≤ k) (hhi : ∀ j, O j ≠ 0 → j < w.heap.size) (n0 : 0 ≤ s.n) (n1 : s.n + m ≤ 4611686018427387904) :
 Calls Tryz.prog 19 #[.pointer (some ⟨B.p, 0, none⟩), .iface 57 (.pointer (some ⟨X, 0, none⟩)), .int .i64 m] w (RP (SX k (k + 24)) w O (.int .i64 (runN mvOver (mvStep f.y) m (s, z)).1) fun W G => PW W G B f (runN mvOver (mvStep f.y) m (s, z)).2.1 ∧ MvAt W G k X (runN mvOver (mvStep f.y) m (s, z)).2.2) := by
 refine (c_RunG mvOver (mvStep f.y) (SX k (k + 24)) (fun W G y => PW W G B f y.1 ∧ MvAt W G k X y.2 ∧ MvOk y.2 ∧ (0 ≤ y.2.lost ∧ y.2.lost ≤ y.2.p.s) ∧ y.1.it = s.it) B.p X 57 20 137 (m_MvOver _) (m_MvStep _)
  (run_enter Tryz.func20 (by kernel_rfl) (by kernel_rfl)) (run_enter Tryz.func137 (by kernel_rfl) (by kernel_rfl)) ?_ ?_ (fun y => One.mv f.y y) w O m (s, z) ⟨hP, hX, hz, ⟨l0, l1⟩, rfl⟩ hhi n0 n1).mono ?_
 · rintro W G y ⟨h1, h2, h3, -, -⟩
   exact c_MvOver h2 h3.l0 h3.l11
 · rintro W G ⟨s1, z1⟩ ⟨h1, h2, h3, h4, h5⟩ ho hh q0 q1
   dsimp only at h1 h2 h3 h4 h5 q0 q1
   have hl : z1.ln ≠ 0 := fun e => by
    unfold mvOver at ho
    dsimp only at ho
    rw [e] at ho
    cases ho
   have hs1 := (h3.p hl).s1
   refine (c_MvStep h3 h1 h2 hl h4.1 (by omega) (by rw [h5]; exact hil) (by rw [h5]; exact hks) hk hh q0 q1).mono ?_
   intro e w' hp2
   exact ⟨_, RP.mono hp2 (fun _ _ h => h) fun W1 G1 h => ⟨h.1, h.2, h3.step f.y h1.bd, mvStep_lost f.y s1 z1 h4.1 h4.2, (it_mv f.y s1 z1).trans h5⟩⟩
 · intro e w' hp2
   exact RP.mono hp2 (fun _ _ h => h) fun W1 G1 h => ⟨h.1, h.2.1⟩
end
section
set_option linter.unusedVariables false
set_option maxHeartbeats 40000000
set_option maxRecDepth 100000
open Go.RowKit Go.Shelf
theorem byA_len (z : Int) : (byArg z).length = 1 := rfl
theorem w_MovesAll (v : Value) (F : Ful) (vm : Value) (ml : List Int) (w : World) (g : FulBd F) (c : FulAt w v F) (gm : ∀ z ∈ ml, 0 ≤ z ∧ z ≤ 255) (cm : Arr w vm ml.length 1 (rowOf byArg ml)) :
 Calls Tryz.prog 3 #[v, vm] w fun e w' => e = .returned (.bool true) ∧ Below w.heap.size w w' := by
 obtain ⟨am, cc, rfl, hcc, hmm⟩ := cm.shape
 have HG : Hid (∀ W, Below w.heap.size w W → Calls Tryz.prog 6 #[v] W (FulGreat W F)) := Lib.hid fun W hb => c_Great17 (c.below hb) g
 have HM : Hid (∀ W, Below w.heap.size w W → F.ks.length ≤ 40 → F.ly.length ≤ 80 → Calls Tryz.prog 8 #[v] W (FulPost W F)) := Lib.hid fun W hb hk hl => c_FulWorld (c.below hb) g hk hl
 obtain ⟨vk, vl, vs, rfl, -, -, -⟩ := c.ex
 obtain ⟨b, hb⟩ : ∃ b, b = fulB F := ⟨_, rfl⟩
 have hbi : 1 ≤ b ∧ b ≤ 3 := by rw [hb]; unfold fulB; have := g.b0; omega
 have HKS := Lib.hid g.ks
 have HML := Lib.hid gm
 have HCM := Lib.hid cm
 have hmx : ml.length ≤ 9223372036854775807 := by unfold maxLen at hmm; omega
 have hmo := And.intro g.m0 g.m1
 unfold FulPost at HM
 unfold FulGreat at HG
 rw [← hb] at HM
 unfold fulV at HG HM ⊢
 clear c g hb gm cm
 go_enter Tryz.func3, Tryz.ntmps3
 have hbox := fulBox (w := w) (F := F) (vk := vk) (vl := vl) (vs := vs) 26
 unfold fulC at hbox
 have hb0 := (Below.refl w.heap.size w).alloc (Nat.le_refl _) (.cells #[.int .u8 F.bi, vk, vl, .string F.ky, .int .u8 F.mo, vs] 26)
 have hl0 : w.heap.size < (w.alloc (.cells #[.int .u8 F.bi, vk, vl, .string F.ky, .int .u8 F.mo, vs] 26)).heap.size := by simp
 have y0 := hbox 0 _ rfl
 have y1 := hbox 1 _ rfl
 have y2 := hbox 2 _ rfl
 have y3 := hbox 3 _ rfl
 have y4 := hbox 4 _ rfl
 have y5 := hbox 5 _ rfl
 go_wp2_with fail
 obtain ⟨W0, hW0⟩ : ∃ W, W = w.alloc (.cells #[.int .u8 F.bi, vk, vl, .string F.ky, .int .u8 F.mo, vs] 26) := ⟨_, rfl⟩
 rw [← hW0] at hbox hb0 hl0 ⊢
 have HB0 := Lib.hid hb0
 have HL0 := Lib.hid hl0
 have HBX := Lib.hid hbox
 clear hW0 y0 y1 y2 y3 y4 y5 hbox hb0 hl0
 refine (HG.out W0 HB0.out).mono ?_
 rintro e w1 ⟨gr, rfl, hb1, hg⟩
 have B1 : Hid (Below w.heap.size w w1) := Lib.hid (HB0.out.trans (hb1.mono HB0.out.size))
 cases gr with
 | true =>
   clear hg hb1
   go_wp2_with fail
   refine (c_lives20 w1).mono ?_
   rintro e w2 ⟨rfl, hb2⟩
   go_wp2_with fail
   go_ret
   exact ⟨rfl, B1.out.trans (hb2.mono B1.out.size)⟩
 | false =>
 by_cases hml : 20 < ml.length
 · have d0 : decide ((20 : Int) < (ml.length : Int)) = true := decide_eq_true (by omega)
   clear hg hb1
   go_wp2_with fail
   refine (c_lives20 w1).mono ?_
   rintro e w2 ⟨rfl, hb2⟩
   go_wp2_with fail
   go_ret
   exact ⟨rfl, B1.out.trans (hb2.mono B1.out.size)⟩
 · have d0 : decide ((20 : Int) < (ml.length : Int)) = false := decide_eq_false (by omega)
   obtain ⟨hks, hly, -⟩ := hg rfl
   have hq1 : w.heap.size < w1.heap.size := Nat.lt_of_lt_of_le HL0.out hb1.size
   have hbx : ∀ j u, [Value.int .u8 F.bi, vk, vl, .string F.ky, .int .u8 F.mo, vs][j]? = some u → w1.cell? ⟨w.heap.size, j, none⟩ = some u := fun j u hu => (hb1.cell (p := ⟨w.heap.size, j, none⟩) HL0.out).trans (HBX.out j u hu)
   have y0 := hbx 0 _ rfl
   have y1 := hbx 1 _ rfl
   have y2 := hbx 2 _ rfl
   have y3 := hbx 3 _ rfl
   have y4 := hbx 4 _ rfl
   have y5 := hbx 5 _ rfl
   have Y4 := Lib.hid y4
   clear hg hb1 hbx HBX HL0 HB0 HG
   go_wp2_with fail
   refine (HM.out w1 B1.out hks hly).mono ?_
   rintro e w2 ⟨B, O2, s0, rfl, hP, hE, hS⟩
   clear y0 y1 y2 y3 y4 y5 HM
   have y4 := (hE.bel.cell (p := ⟨w.heap.size, 4, none⟩) hq1).trans Y4.out
   have hqo : O2 w.heap.size = 0 := by
    by_cases q : O2 w.heap.size = 0
    · exact q
    · exact absurd (hE.base _ q) (by omega)
   have hq2 : w.heap.size < w2.heap.size := Nat.lt_of_lt_of_le hq1 hE.bel.size
   have L2 := Lib.hid (LW.from ⟨hP, hE⟩ B1.out)
   have FS := Lib.hid hS
   have hwd := hS.fil.wd
   clear hP hE hS B1 Y4
   have p0 := L2.out.p.wo.c0
   have HPK := Lib.hid (L2.out.peek 2 (by decide) (by decide) w2 (Below.refl _ _))
   rw [hwd] at HPK
   have HAS0 := c_As b w2 (by omega) (by omega)
   rw [plOld_one hbi.1 (by omega), plNow_one hbi.1 (by omega)] at HAS0
   have HAS := Lib.hid HAS0
   obtain ⟨t, ht⟩ : ∃ t, t = plWord b (b + 1) := ⟨_, rfl⟩
   have htb := plWord_bd b (b + 1)
   have hto := plOld_two hbi.1 (by omega : b ≤ 11)
   rw [← ht] at htb hto
   have HWD : Hid (∀ W, Calls Tryz.prog 11 #[.int .i64 b, .int .i64 (b + 1)] W fun e w' => e = .returned (.int .u64 t) ∧ W = w') := Lib.hid fun W => by rw [ht]; exact c_Word b (b + 1) W
   have HST := Lib.hid (c_StoreP 2 t (w := w2) L2.out.p L2.out.hi (by decide) (by decide) htb.1 (by omega) FS.out.n0 (by have := FS.out.n1; omega))
   obtain ⟨s1, hs1⟩ : ∃ s1, s1 = awStore 2 t s0 := ⟨_, rfl⟩
   rw [← hs1] at HST
   have hn1 : 0 ≤ s1.n ∧ s1.n ≤ 1100 := by have := FS.out.n0; have := FS.out.n1; rw [hs1]; show 0 ≤ s0.n + 1 ∧ s0.n + 1 ≤ 1100; omega
   have HS1 := Lib.hid hs1
   have HTO := Lib.hid hto
   clear hwd ht hs1 HAS0 hto
   go_wp2_with fail
   refine HPK.out.mono ?_
   rintro e w' ⟨rfl, rfl⟩
   go_wp2_with fail
   refine HAS.out.mono ?_
   rintro e w' ⟨rfl, rfl⟩
   go_wp2_with fail
   refine (HWD.out _).mono ?_
   rintro e w' ⟨rfl, rfl⟩
   go_wp2_with fail
   refine HST.out.mono ?_
   rintro e w3 ⟨rfl, G3, e3, P3⟩
   have L3 := Lib.hid (L2.out.to e3 P3)
   have y4 := (e3.cell (p := ⟨w.heap.size, 4, none⟩) hq2 (by show ¬ SW (O2 w.heap.size); rw [hqo]; exact sw0)).trans y4
   have x7 := L3.out.p.wo.c7
   have f7 := L3.out.p.wo.fr 7
   clear HPK HAS HWD HST p0 e3 P3 L2 hq1 hq2 hqo
   go_upto_region 10 with fail
   obtain ⟨mo, hmoe⟩ : ∃ mo, mo = 2 + F.mo % 20 := ⟨_, rfl⟩
   have hmob : 2 ≤ mo ∧ mo ≤ 21 := by omega
   rw [← hmoe]
   obtain ⟨P4, e4⟩ := L3.out.p.setWay L3.out.hi mo
   have hL4 : LW w _ G3 B ⟨b, 8, 3, 1, mo⟩ s1 := ⟨P4, L3.out.e.ext e4⟩
   obtain ⟨w4, hw4⟩ : ∃ W, W = w3.setCell ⟨B.p, 7, none⟩ (.int .i64 mo) := ⟨_, rfl⟩
   rw [← hw4] at hL4 ⊢
   have L4 := Lib.hid hL4
   clear hw4 hmoe P4 e4 hL4 x7 f7 y4 L3 hmo
   -- the spots of both tables
   obtain ⟨N, hN⟩ : ∃ N : Nat, (N : Int) = plSpots t := ⟨(plSpots t).toNat, by have := plSpots_bd t; omega⟩
   have hz := fnvSize_up hbi.1 hbi.2
   have hN5 : N ≤ 500 := by have := plSpots_eq t; rw [HTO.out.1, HTO.out.2] at this; omega
   have hT1 : ∀ p : Spt, p.ok → tabOf s1.M p = tabOf s0.M p := fun p hp => by rw [HS1.out]; exact tabOf_upd (by decide) hp
   have HSL : ∀ n : Nat, n < N → StAt t F.ks s1.M (plAt t n) := fun n hn => by
    have hok := plAt_ok t n
    have h := FS.out.fil.stT HTO.out.1 hok
    rw [← hT1 _ hok] at h
    rcases h with e | ⟨r, k, g1, g2, g3, g4⟩
    · exact .inl ⟨congrArg Prod.fst e, congrArg Prod.snd e⟩
    · exact .inr ⟨r, k, g1, g2, g3, g4⟩
   have hwd1 : s1.M 2 = t := by rw [HS1.out]; exact upd_same s0.M 2 t
   have hit1 : s1.it = F.ks.map fulIt := by rw [HS1.out]; exact FS.out.it
   obtain ⟨C, hC⟩ : ∃ C : Nat → Int, C = fun r => tC (gIt r) (tabOf s0.M) t N := ⟨_, rfl⟩
   have hstc : ∀ r : Nat, stC t s1.M N r = C r := fun r => by
    rw [stC_tC, hC]
    exact tC_congr fun i _ => by rw [hT1 _ (plAt_ok t i)]
   have HST0 := c_Stand (A := N) L4.out htb.1 (by omega) hwd1 hN hN5 hit1 hks HKS.out HSL
   rw [ir64_congr (J := C) fun j _ => hstc j] at HST0
   have hCb : ∀ r : Nat, 0 ≤ C r ∧ C r ≤ 500 := fun r => by rw [← hstc r]; have := stC_bd t s1.M N r; omega
   obtain ⟨R0, hR0⟩ : ∃ R, R = (ir .i64 C 64).toArray := ⟨_, rfl⟩
   rw [← hR0] at HST0
   have hr0s : R0.size = 64 := by rw [hR0]; exact ir_size _ _ _
   have hr0a : R0.all (·.oneCell') = true := by rw [hR0]; exact ir_all _ _ _
   obtain ⟨V0, hV0⟩ : ∃ V0, V0 = Value.agg R0 := ⟨_, rfl⟩
   rw [← hV0] at HST0
   have HST := Lib.hid HST0
   have HV0 := Lib.hid hV0
   have HR0 := Lib.hid hR0
   have HC := Lib.hid hC
   have HCB := Lib.hid hCb
   have HN := Lib.hid hN
   clear hT1 HSL hwd1 hit1 hC hstc hCb hR0 hV0 HST0 hN
   go_wp2_with fail
   refine HST.out.mono ?_
   rintro e w5 ⟨rfl, hb5⟩
   have L5 := Lib.hid (L4.out.below hb5)
   clear hb5 HST L4
   go_upto_region 11 with (first
    | (refine wpList_store_row rfl 45 _ _ rfl w5.heap.size R0 rfl HV0.out 45 _ (heap_alloc_new _ _) (by rw [hr0s]; kernel_rfl) (by rw [hr0s]; rfl) hr0a ?_))
   generalize hW6 : World.setRow (World.alloc w5 _) _ R0 = w6
   obtain ⟨hk6, hb6⟩ := B6.row (G := G3) HR0.out L5.out.hi hW6
   obtain ⟨XW, hXW⟩ : ∃ X, X = w5.heap.size := ⟨_, rfl⟩
   rw [← hXW] at hk6 ⊢
   have L6 := Lib.hid (L5.out.below hb6)
   have K6 := Lib.hid hk6
   clear L5 hb6 hk6 hXW hW6
   have HCN0 := fun W => c_count20 (w := W) C (fun i => by have := HCB.out i; omega)
   obtain ⟨CL, hCL⟩ : ∃ L, L = ir .i64 C 64 := ⟨_, rfl⟩
   rw [← hCL] at HCN0
   have hli : (Tryz.prog.info? 45).map (·.size) = some CL.length := by rw [hCL, ir_len]; kernel_rfl
   have HRG : Hid (∀ W G, B6 W G XW C → W.rangeAt XW 0 CL) := Lib.hid fun W G h j v hv => by
    rw [Nat.zero_add]
    exact cell_of_blk h.h (by rw [← hCL]; exact hv)
   have r0 := HRG.out _ _ K6.out
   have hun := Tryz.underlying45
   clear hCL
   obtain ⟨cw, hcw⟩ : ∃ c, c = sumN C 64 := ⟨_, rfl⟩
   rw [← hcw] at HCN0
   have hcwb : 0 ≤ cw ∧ cw ≤ 32000 := by
    have : ∀ n : Nat, 0 ≤ sumN C n ∧ sumN C n ≤ 500 * n := by
     intro n
     induction n with
     | zero => exact ⟨Int.le_refl _, Int.le_refl _⟩
     | succ n ih =>
       have := HCB.out n
       show 0 ≤ sumN C n + C n ∧ sumN C n + C n ≤ _
       omega
    have := this 64
    omega
   have S6 : Hid (MaS t b F.ks N C (awStore 6 cw s1) (tabOf s0.M) 0) := Lib.hid (by rw [HS1.out, HC.out]; exact MaS.start FS.out HTO.out.1 (by rw [hcw, HC.out]))
   have HCW := Lib.hid hcw
   have HCN := Lib.hid HCN0
   have LD := Lib.hid (L6.out.below (drew_below w6))
   have KD := Lib.hid (K6.out.below (drew_below w6))
   have hwr : IntKind.u64.wrap cw = cw := by simp [IntKind.wrap, IntKind.bits]; omega
   have HSC : Hid (∀ W, LW w W G3 B ⟨b, 8, 3, 1, mo⟩ s1 → Calls Tryz.prog 12 #[.pointer (some ⟨B.c, 0, none⟩), .int .u64 6, .int .u64 (IntKind.u64.wrap cw)] W (RP SW W G3 (.int .u64 (s1.M 6)) fun W' G => PW W' G B ⟨b, 8, 3, 1, mo⟩ (awStore 6 cw s1))) := Lib.hid fun W hW => by
    rw [hwr]; exact c_StoreP 6 cw hW.p hW.hi (by decide) (by decide) hcwb.1 (by omega) hn1.1 (by omega)
   have p0 := L6.out.p.wo.c0
   clear hcw HCN0 hwr
   go_region_held3 (fun w' => w'.cell? ⟨B.p, 0, none⟩ = some (.pointer (some ⟨B.c, 0, none⟩)) ∧ w'.rangeAt XW 0 CL) (go_keep)
    ((first
      | (go_at_call 14
         refine (HCN.out _).mono ?_
         rintro e w7 ⟨rfl, hb7⟩
         have L7 := Lib.hid (LD.out.below hb7)
         have K7 := Lib.hid (KD.out.below hb7)
         have p07 := L7.out.p.wo.c0
         have r07 := HRG.out _ _ K7.out
         clear hb7)
      | (go_at_call 12
         refine (HSC.out _ L7.out).mono ?_
         rintro e w8 ⟨rfl, G8, e8, P8⟩
         have L8 := Lib.hid (L7.out.to e8 P8)
         have K8 := Lib.hid (K7.out.ext e8 sw0)
         have q08 := L8.out.p.wo.c0
         have r08 := HRG.out _ _ K8.out
         clear e8 P8)))
   obtain ⟨zs, hze⟩ : ∃ z, z = fnvSize b := ⟨_, rfl⟩
   have HSZ : Hid (∀ W, Calls Tryz.prog 15 #[.int .i64 b] W fun e w' => e = .returned (.int .i64 zs) ∧ W = w') := Lib.hid fun W => by rw [hze]; exact c_Size b W (by omega) (by omega)
   rw [← hze] at hz
   have HZE := Lib.hid hze
   have hzb : 2 ≤ zs ∧ zs ≤ 8 := hz.2
   have hz0 : ¬ zs = 0 := by omega
   obtain ⟨Nb, hNb⟩ : ∃ Nb : Nat, (Nb : Int) = plSpots b := ⟨(plSpots b).toNat, by have := plSpots_bd b; omega⟩
   have hNb5 : Nb ≤ 500 := by have := plSpots_one hbi.1 (by omega : b ≤ 12); omega
   have HNB := Lib.hid hNb
   have S8 : Hid (0 ≤ (awStore 6 cw s1).n ∧ (awStore 6 cw s1).n ≤ 2000) := Lib.hid (by show 0 ≤ s1.n + 1 ∧ s1.n + 1 ≤ 2000; omega)
   obtain ⟨s8, hs8⟩ : ∃ s, s = awStore 6 cw s1 := ⟨_, rfl⟩
   rw [← hs8] at S6 S8 L8
   obtain ⟨T0, hT0⟩ : ∃ T, T = tabOf s0.M := ⟨_, rfl⟩
   rw [← hT0] at S6
   clear hz hze hNb hs8 hT0 L6 K6 LD KD HSC p0 L7 K7 p07 q08 r0 r07 r08 hn1 hcwb HS1
   go_upto_region 14 with fail
   go_loopw [11, 12] (fun lv iv wr => ∃ (i : Nat) (G : Om) (s : AW) (T : Tab) (lost : Int), iv = .int .i64 i ∧ lv = .int .i64 lost ∧ i ≤ ml.length ∧ LW w wr G B ⟨b, 8, 3, 1, mo⟩ s ∧ MaS t b F.ks N C s T lost ∧ (0 ≤ lost ∧ lost ≤ 4 * i) ∧ (0 ≤ s.n ∧ s.n ≤ 2000 + 9000 * i) ∧ B6 wr G XW C) (fun _ iv _ => ml.length - (intOf iv).toNat)
   case atStart => exact ⟨0, G8, s8, T0, 0, rfl, rfl, Nat.zero_le _, L8.out, S6.out, by omega, by have := S8.out; omega, K8.out⟩
   case round =>
    clear L8 S6 S8 K8
    obtain ⟨i, G9, s9, T9, lost, rfl, rfl, hi, hL, hS, hlo, hn9, hK⟩ := hrel
    have L9 := Lib.hid hL
    have S9 := Lib.hid hS
    have K9 := Lib.hid hK
    clear hL hS hK
    by_cases hi2 : i < ml.length
    · obtain ⟨A, o, c', he, -, -, hlt, hx⟩ := HCM.out.open (by omega) (by omega)
      cases he
      obtain ⟨z, hz⟩ : ∃ z, z = ml[i] := ⟨_, rfl⟩
      have hr0 : (rowOf byArg ml)[i]? = (byArg z)[0]? := by rw [hz]; have := rowOf_get byA_len ml i 0 hi2 (by omega); rw [Nat.mul_one] at this; exact this
      have hc0 := hx _ _ hr0
      have v0 : wr.cell? ⟨A, o + i, none⟩ = some (.int .u8 z) := (L9.out.bel.cell (p := ⟨A, o + i, none⟩) hlt).trans hc0
      have hzb2 := HML.out z (by rw [hz]; exact List.getElem_mem _)
      have hib0 : (0 : Int) ≤ (i : Int) := by omega
      have hib1 : (i : Int) < (ml.length : Int) := by omega
      clear hx hr0 hc0 hz
      obtain ⟨qb, hqb⟩ : ∃ q, q = z % zs := ⟨_, rfl⟩
      have hqbb : 0 ≤ qb ∧ qb < zs := by rw [hqb]; exact ⟨Int.emod_nonneg _ hz0, Int.emod_lt_of_pos _ (by omega)⟩
      have eq1 : (IntKind.i64.wrap z).tmod zs = qb := by
       have ez : IntKind.i64.wrap z = z := by simp [IntKind.wrap, IntKind.bits, IntKind.signed]; omega
       rw [ez, Int.tmod_eq_emod_of_nonneg hzb2.1, ← hqb]
      have EQ1 := Lib.hid eq1
      clear hqb eq1
      go_wp2_with fail
      go_region_held3 (fun w' => w'.cell? ⟨A, o + i, none⟩ = some (.int .u8 z)) (go_keep)
       ((first
         | (go_at_call 15
            refine (HSZ.out _).mono ?_
            rintro e w' ⟨rfl, rfl⟩)))
      all_goals
       rw [EQ1.out]
       have hbx : Below wr.heap.size wr (wr.alloc (.cells #[.int .i64 b, .int .i64 qb] 51)).drew := ((Below.refl _ _).alloc (Nat.le_refl _) _).trans ((drew_below _).mono (by simp))
       have hxo : G9 wr.heap.size = 0 := by
        by_cases q : G9 wr.heap.size = 0
        · exact q
        · exact absurd (L9.out.hi _ q) (by omega)
       have hXB : XB wr.heap.size b qb (wr.alloc (.cells #[.int .i64 b, .int .i64 qb] 51)).drew G9 := ⟨hxo, by show wr.heap.size < (wr.alloc _).heap.size; simp, cell_newA wr #[.int .i64 b, .int .i64 qb] 51 _ rfl 0 _ rfl, cell_newA wr #[.int .i64 b, .int .i64 qb] 51 _ rfl 1 _ rfl⟩
       obtain ⟨w10, hw10⟩ : ∃ W, W = (wr.alloc (.cells #[.int .i64 b, .int .i64 qb] 51)).drew := ⟨_, rfl⟩
       obtain ⟨X, hX⟩ : ∃ X, X = wr.heap.size := ⟨_, rfl⟩
       rw [← hw10] at hbx hXB ⊢
       rw [← hX] at hXB ⊢
       have L10 := Lib.hid (L9.out.below hbx)
       have K10 := Lib.hid (K9.out.below hbx)
       have X10 := Lib.hid hXB
       have HAT0 := c_at20 (A := Nb) L10.out hbi.1 (by omega) HNB.out hNb5
       have htc : ∀ r, atI b s9.M Nb r = tC (gAt r) T9 b Nb := fun r => S9.out.rep.tC_eq b Nb
       rw [ir64_congr (J := fun r => tC (gAt r) T9 b Nb) fun j _ => htc j] at HAT0
       obtain ⟨R2, hR2⟩ : ∃ R, R = (ir .i64 (fun r => tC (gAt r) T9 b Nb) 64).toArray := ⟨_, rfl⟩
       rw [← hR2] at HAT0
       have hr2s : R2.size = 64 := by rw [hR2]; exact ir_size _ _ _
       have hr2a : R2.all (·.oneCell') = true := by rw [hR2]; exact ir_all _ _ _
       obtain ⟨V2, hV2⟩ : ∃ V, V = Value.agg R2 := ⟨_, rfl⟩
       rw [← hV2] at HAT0
       have HAT := Lib.hid HAT0
       have HR2 := Lib.hid hR2
       have HV2 := Lib.hid hV2
       clear hbx hXB hw10 hX hxo L9 K9 HAT0 htc hR2 hV2
       go_wp2_with fail
       refine HAT.out.mono ?_
       rintro e w11 ⟨rfl, hb11⟩
       have L11 := Lib.hid (L10.out.below hb11)
       have K11 := Lib.hid (K10.out.below hb11)
       have X11 := Lib.hid (X10.out.below hb11)
       clear hb11 L10 K10 X10 HAT
       go_upto_region 18 with (first
        | (refine wpList_store_row rfl 45 _ _ rfl w11.heap.size R2 rfl HV2.out 45 _ (heap_alloc_new _ _) (by rw [hr2s]; kernel_rfl) (by rw [hr2s]; rfl) hr2a ?_))
       generalize hW12 : World.setRow (World.alloc w11 _) _ R2 = w12
       obtain ⟨hj12, hb12⟩ := B6.row (G := G9) HR2.out L11.out.hi hW12
       have hne1 : w11.heap.size ≠ X := by have := X11.out.lt; omega
       have hne2 : w11.heap.size ≠ XW := by have := K11.out.lt; omega
       obtain ⟨XR, hXR⟩ : ∃ X, X = w11.heap.size := ⟨_, rfl⟩
       rw [← hXR] at hj12 hne1 hne2 ⊢
       have L12 := Lib.hid (L11.out.below hb12)
       have K12 := Lib.hid (K11.out.below hb12)
       have X12 := Lib.hid (X11.out.below hb12)
       have hJb : ∀ n r : Nat, n ≤ 4 → -4 ≤ tC (gAt r) T9 b Nb - bC T9 b qb r n ∧ tC (gAt r) T9 b Nb - bC T9 b qb r n ≤ 500 := fun n r hn => by
        have h1 : ∀ m : Nat, 0 ≤ tC (gAt r) T9 b m ∧ tC (gAt r) T9 b m ≤ m := by
         intro m
         induction m with
         | zero => exact ⟨Int.le_refl _, Int.le_refl _⟩
         | succ m ih =>
           have := gAt_bd r (T9 (plAt b m))
           show 0 ≤ tC (gAt r) T9 b m + _ ∧ tC (gAt r) T9 b m + _ ≤ _
           omega
        have h2 : ∀ m : Nat, 0 ≤ bC T9 b qb r m ∧ bC T9 b qb r m ≤ m := by
         intro m
         induction m with
         | zero => exact ⟨Int.le_refl _, Int.le_refl _⟩
         | succ m ih =>
           have := gAt_bd r (T9 ⟨b, qb, m⟩)
           show 0 ≤ bC T9 b qb r m + _ ∧ bC T9 b qb r m + _ ≤ _
           omega
        have := h1 Nb
        have := h2 n
        omega
       have HJB := Lib.hid hJb
       have hj12 := hj12.congr (J := fun r => tC (gAt r) T9 b Nb - bC T9 b qb r 0) fun j _ => (show _ - (0 : Int) = _ by rw [Int.sub_zero])
       have J12 := Lib.hid hj12
       have E12 : Hid (Ext (fun _ => False) G9 w11 G9 w12) := Lib.hid (Ext.of_below L11.out.hi hb12)
       have hxr : w11.heap.size ≤ XR := by omega
       clear L12 K12 X12 hJb hb12 hj12 hXR hW12 HR2 HV2 hr2s hr2a
       go_upto_region 20 with fail
       have KQ : Hid (MaC t b qb F.ks N T9) := Lib.hid ⟨hbi.1, hbi.2, hqbb.1, by rw [← HZE.out]; exact hqbb.2, HTO.out.1, HTO.out.2, HN.out, hks, S9.out.sl⟩
       go_loopw [15, 16] (fun mv iv W => ∃ n : Nat, iv = .int .i64 n ∧ mv = .int .i64 (miC T9 b qb n) ∧ n ≤ 4 ∧ Ext (fun _ => False) G9 w11 G9 W ∧ B6 W G9 XR (fun r => tC (gAt r) T9 b Nb - bC T9 b qb r n)) (fun _ iv _ => 4 - (intOf iv).toNat)
       case atStart => exact ⟨0, rfl, rfl, by omega, E12.out, J12.out⟩
       case round =>
        clear E12 J12
        obtain ⟨n, rfl, rfl, hn, hE, hJ⟩ := hrel
        have E13 := Lib.hid hE
        have J13 := Lib.hid hJ
        have L13 := Lib.hid (L11.out.ext hE id id id id)
        have X13 := Lib.hid (X11.out.ext hE id)
        clear hE hJ
        have hmb := miC_bd T9 b qb n
        by_cases hn2 : n < 4
        · have v0 := X13.out.c0
          have v1 := X13.out.c1
          have hpok : (⟨b, qb, n⟩ : Spt).ok := ⟨hbi.1, by dsimp only; omega, hqbb.1, by rw [← HZE.out]; exact hqbb.2, by dsimp only; omega, by dsimp only; omega⟩
          have HS := c_Slot ⟨b, qb, n⟩ L13.out.p hpok L13.out.hi
          rw [S9.out.rep.tg _ hpok, S9.out.rep.it _ hpok] at HS
          have hsl := (S9.out.sl _ hpok (.inl HTO.out.1.symm)).slok hks
          have htgb := twTag_bd (s9.M (⟨b, qb, n⟩ : Spt).tags) (⟨b, qb, n⟩ : Spt).s
          rw [S9.out.rep.tg _ hpok] at htgb
          have HMI : Hid (miC T9 b qb (n + 1) = miC T9 b qb n + if (T9 ⟨b, qb, n⟩).1 = 0 then 0 else 1) := Lib.hid rfl
          have HBC : Hid (∀ r, tC (gAt r) T9 b Nb - bC T9 b qb r (n + 1) = (tC (gAt r) T9 b Nb - bC T9 b qb r n) - gAt r (T9 ⟨b, qb, n⟩)) := Lib.hid fun r => by
           show _ - (bC T9 b qb r n + gAt r (T9 ⟨b, qb, n⟩)) = _
           omega
          obtain ⟨tv, htv⟩ : ∃ x, x = T9 ⟨b, qb, n⟩ := ⟨_, rfl⟩
          rw [← htv] at HS hsl HMI htgb HBC
          obtain ⟨tg, it⟩ := tv
          obtain ⟨mi, hmi⟩ : ∃ mi, mi = miC T9 b qb n := ⟨_, rfl⟩
          rw [← hmi] at HMI hmb ⊢
          dsimp only at HS HMI htgb
          have HS := Lib.hid HS
          clear hpok htv hmi
          go_wp2_with fail
          refine HS.out.mono ?_
          rintro e w14 ⟨rfl, hb14⟩
          have E14 := Lib.hid (E13.out.trans (Ext.of_below E13.out.hi hb14))
          have J14 := Lib.hid (J13.out.below hb14)
          clear hb14 HS v0 v1 E13 J13 L13 X13
          by_cases ht0 : tg = 0
          · have d0 : decide ((0 : Int) < tg) = false := decide_eq_false (by omega)
            rw [if_pos ht0] at HMI
            have hz : (tg, it) = (0, 0) := hsl.1 ht0
            have HJ : Hid (B6 w14 G9 XR (fun r => tC (gAt r) T9 b Nb - bC T9 b qb r (n + 1))) := Lib.hid (J14.out.congr fun j _ => by
             show tC (gAt j) T9 b Nb - bC T9 b qb j (n + 1) = _
             rw [HBC.out, hz, gAt_0]; omega)
            clear ht0 hz hsl
            go_wp2_with fail
            go_roundw
            case rel => exact ⟨n + 1, by go_num, by rw [HMI.out, Int.add_zero], by omega, E14.out, HJ.out⟩
            case measure => simp [intOf]; omega
          · have d0 : decide ((0 : Int) < tg) = true := decide_eq_true (by omega)
            rw [if_neg ht0] at HMI
            have hit := hsl.2 ht0
            dsimp only at hit
            obtain ⟨r, hr⟩ : ∃ r : Nat, (r : Int) = it := ⟨it.toNat, by omega⟩
            rw [← hr] at hit HBC ⊢
            have hr64 : r < 64 := by omega
            have d6 : decide ((r : Int) < 64) = true := decide_eq_true (by omega)
            have hrb0 : (0 : Int) ≤ (r : Int) := by omega
            have hrb1 : (r : Int) < 64 := by omega
            have a00 := J14.out.cell hr64
            have f0 := J14.out.fro r
            have hcb := HJB.out n r (by omega)
            have HJ : Hid (B6 (w14.setCell ⟨XR, r, none⟩ (.int .i64 (tC (gAt r) T9 b Nb - bC T9 b qb r n - 1))) G9 XR (fun r => tC (gAt r) T9 b Nb - bC T9 b qb r (n + 1))) := Lib.hid (J14.out.set hr64 (by
             show tC (gAt r) T9 b Nb - bC T9 b qb r (n + 1) = _
             rw [HBC.out]
             unfold gAt
             rw [if_pos ⟨by dsimp only; omega, rfl⟩]) fun j _ hj => by
             show tC (gAt j) T9 b Nb - bC T9 b qb j (n + 1) = _
             rw [HBC.out]
             unfold gAt
             rw [if_neg (by dsimp only; omega)]
             omega)
            obtain ⟨cv, hcv⟩ : ∃ c, c = tC (gAt r) T9 b Nb - bC T9 b qb r n := ⟨_, rfl⟩
            rw [← hcv] at HJ hcb
            have a0 : w14.cell? ⟨XR, r, none⟩ = some (.int .i64 cv) := by rw [hcv]; exact a00
            clear a00
            have E15 := Lib.hid (E14.out.set_new (j := r) (v := .int .i64 (cv - 1)) hxr)
            clear ht0 hr hsl hcv
            go_wp2_with fail
            go_roundw
            case rel => exact ⟨n + 1, by go_num, by rw [HMI.out], by omega, E15.out, HJ.out⟩
            case measure => simp [intOf]; omega
        · have hn4 : n = 4 := by omega
          subst hn4
          obtain ⟨cn, y, zz, Ty, MR⟩ := ma_run KQ.out S9.out hlo.1 (by omega) hmob.2
          have hmi4 := miC_bd T9 b qb 4
          obtain ⟨mi, hmi⟩ : ∃ mi, mi = miC T9 b qb 4 := ⟨_, rfl⟩
          rw [← hmi] at hmb hmi4 ⊢
          have HMI := Lib.hid hmi
          have HM6 := Lib.hid MR
          have K13 := Lib.hid (K11.out.ext E13.out id)
          have v1 := X13.out.c1
          have HNM := Lib.hid (c_NewMove (w := wr) (O := G9) (k := 10) t qb htb.1 (by omega) (by omega) (by omega) (by decide) L13.out.hi)
          clear hmi MR hn hn2 E13 hmb L11 K11 X11 hxr
          go_wp2_with fail
          refine HNM.out.mono ?_
          rintro e w15 ⟨R, rfl, G15, e15, m15⟩
          have L15 := Lib.hid (L13.out.ext e15 (by decide) (by decide) (by decide) (by decide))
          have X15 := Lib.hid (X13.out.ext e15 (by decide))
          have K15 := Lib.hid (K13.out.ext e15 (by decide))
          have J15 := Lib.hid (J13.out.ext e15 (by decide))
          have HR := c_MvRunF (k := 10) R (mvNew t qb) 9000 (mvNew_ok t qb) (by unfold mvNew; split <;> exact Int.le_refl _) (by unfold mvNew; split <;> exact Int.le_refl _) (by rw [S9.out.it, List.length_map]; omega) (by rw [S9.out.it]; exact itOf_ful HKS.out) L15.out.p m15 (by decide) L15.out.hi hn9.1 (by omega)
          have hrun := HM6.out.run
          have hf16 : (⟨b, 8, 3, 1, mo⟩ : Cf).y = mo := rfl
          rw [hf16, hrun] at HR
          dsimp only at HR
          rw [show ((9000 : Nat) : Int) = 9000 from rfl] at HR
          have HR := Lib.hid HR
          have hny : 0 ≤ y.n ∧ y.n ≤ 2000 + 9000 * ((i : Int) + 1) := by
           have h1 := runN_n (over := mvOver) (step := mvStep mo) (fun z => One.mv mo z) 9000 (s9, mvNew t qb)
           have h2 := runN_le (over := mvOver) (step := mvStep mo) 9000 (s9, mvNew t qb)
           rw [hrun] at h1 h2
           dsimp only at h1 h2
           omega
          clear L13 X13 K13 J13 v1 HNM e15 m15 hrun hf16
          go_wp2_with fail
          refine HR.out.mono ?_
          rintro e w16 ⟨rfl, G16, e16, P16, m16⟩
          have L16 := Lib.hid (L15.out.to e16 P16)
          have X16 := Lib.hid (X15.out.ext e16 (sx0 (by decide)))
          have K16 := Lib.hid (K15.out.ext e16 (sx0 (by decide)))
          have J16 := Lib.hid (J15.out.ext e16 (sx0 (by decide)))
          have M16 := Lib.hid m16
          clear e16 P16 m16 L15 X15 K15 J15 HR
          have hz0l : zz.ln = 0 := by have := HM6.out.ov; unfold mvOver at this; simpa using this
          have HOV : Hid (∀ e : Later w16, Calls Tryz.prog 20 #[.pointer (some ⟨R, 0, none⟩)] (via w16 e) fun e_1 w' => e_1 = .returned (.bool true) ∧ via w16 e = w') := Lib.hid fun e => by
           have h := c_MvOver (M16.out.below L16.out.hi (via_below w16 e)) (by rw [hz0l]; decide) (by rw [hz0l]; decide)
           rw [HM6.out.ov] at h
           exact h
          obtain ⟨zl, hzl⟩ : ∃ x, x = zz.lost := ⟨_, rfl⟩
          have hzlb : 0 ≤ zl ∧ zl ≤ mi := by rw [hzl, HMI.out]; exact ⟨HM6.out.l0, HM6.out.l1⟩
          have HLO : Hid (∀ e : Later w16, Calls Tryz.prog 21 #[.pointer (some ⟨R, 0, none⟩)] (via w16 e) fun e_1 w' => e_1 = .returned (.int .i64 zl) ∧ via w16 e = w') := Lib.hid fun e => by
           rw [hzl]; exact c_MvLost (M16.out.below L16.out.hi (via_below w16 e))
          have hemp : ∀ k : Nat, k < 4 → twTag (y.M (plTags b qb)) k = 0 ∧ y.M (plItem b qb k) = 0 := fun k hk => by
           have hok : (⟨b, qb, (k : Int)⟩ : Spt).ok := ⟨hbi.1, by dsimp only; omega, hqbb.1, by rw [← HZE.out]; exact hqbb.2, by dsimp only; omega, by dsimp only; omega⟩
           have h1 := HM6.out.S.rep.tg _ hok
           have h2 := HM6.out.S.rep.it _ hok
           rw [HM6.out.old _ hok rfl, if_pos rfl] at h1 h2
           exact ⟨h1, h2⟩
          have HEM : Hid (∀ e : Later w16, Calls Tryz.prog 22 #[.pointer (some ⟨B.p, 0, none⟩), .agg #[.int .i64 b, .int .i64 qb]] (via w16 e) fun e_1 w' => e_1 = .returned (.bool true) ∧ Below (via w16 e).heap.size (via w16 e) w') := Lib.hid fun e =>
           c_empty20 (L16.out.below (via_below w16 e)) hbi.1 (by omega) hqbb.1 (by rw [← HZE.out]; exact hqbb.2) hemp
          obtain ⟨R3, hR3⟩ : ∃ R, R = (ir .i64 (fun r => tC (gAt r) T9 b Nb - bC T9 b qb r 4) 64).toArray := ⟨_, rfl⟩
          have HAT : Hid (∀ e : Later w16, Calls Tryz.prog 16 #[.pointer (some ⟨B.p, 0, none⟩), .int .i64 b] (via w16 e) fun e_1 w' => e_1 = .returned (.agg R3) ∧ Below (via w16 e).heap.size (via w16 e) w') := Lib.hid fun e => by
           have h := c_at20 (A := Nb) (L16.out.below (via_below w16 e)) hbi.1 (by omega) HNB.out hNb5
           have hc : ∀ r, r < 64 → atI b y.M Nb r = tC (gAt r) T9 b Nb - bC T9 b qb r 4 := fun r _ => (HM6.out.S.rep.tC_eq b Nb).trans (HM6.out.at KQ.out HNB.out)
           rw [ir64_congr hc, ← hR3] at h
           exact h
          have eqR : ∀ W, (Op.equalIn 10000 45 (.agg R3) (.agg R3)).run Tryz.prog W = .ok true W := fun W => by rw [hR3]; exact eq_ir64i _ W
          have ldR : ∀ e : Later w16, (ld64 ⟨XR, 0, none⟩).run Tryz.prog (via w16 e) = .ok R3 (via w16 e) := fun e => by rw [hR3]; exact (J16.out.h.below (via_below w16 e)).ld
          have v0 := X16.out.c0
          have v1 := X16.out.c1
          have hxl := X16.out.lt
          have dl : decide (mi < zl) = false := decide_eq_false (by omega)
          have HZL := Lib.hid hzl
          clear hz0l hzl hemp hR3
          go_upto_region 28 with fail
          refine wp_region_via (by kernel_rfl) (by kernel_rfl) ?_
          repeat (go_big_quiet_step ((first
           | (go_at_call 20; exact viaS (HOV.out _))
           | (go_at_call 21; exact viaS (HLO.out _))
           | (go_at_call 22; exact viaB (HEM.out _))
           | (go_at_call 16; exact viaB (HAT.out _)))))
          refine wpQuiet_nil ?_
          rintro _ ⟨e, rfl⟩
          obtain ⟨w17, hw17⟩ : ∃ Wv, Wv = via w16 e := ⟨_, rfl⟩
          have hbv : Below w16.heap.size w16 w17 := by rw [hw17]; exact via_below w16 e
          have HL2 : Hid (Calls Tryz.prog 21 #[.pointer (some ⟨R, 0, none⟩)] w17 fun e_1 w' => e_1 = .returned (.int .i64 zl) ∧ w17 = w') := Lib.hid (by rw [hw17]; exact HLO.out e)
          rw [← hw17]
          have L17 := Lib.hid (L16.out.below hbv)
          have K17 := Lib.hid (K16.out.below hbv)
          have S17 : Hid (MaS t b F.ks N C y Ty (lost + zl)) := Lib.hid (by rw [HZL.out]; exact HM6.out.S)
          clear hw17 hbv HOV HLO HEM HAT eqR ldR v0 v1 hxl dl L16 X16 K16 J16 M16 HM6
          go_wp2_with fail
          refine HL2.out.mono ?_
          rintro e w' ⟨rfl, rfl⟩
          go_wp2_with fail
          go_roundw
          case rel => exact ⟨i + 1, G16, y, Ty, lost + zl, by go_num, by go_num, by omega, L17.out, S17.out, by omega, by omega, K17.out⟩
          case measure => simp [intOf]; omega
    · have hie : i = ml.length := by omega
      subst hie
      clear hi hi2 HCM HML
      have hlen : s9.nt.length ≤ 1000000 := by have := S9.out.nti.len; omega
      have HDR0 := c_drops L9.out S9.out.nti.dr hlen
      have hdb : ∀ r, 0 ≤ drC 1 s9.nt r ∧ drC 1 s9.nt r ≤ 1000 := fun r => by
       have := drC_bd 1 s9.nt r
       have h2 := S9.out.nti.len
       omega
      have HCN4 := fun W => c_count20 (w := W) (drC 1 s9.nt) (fun r => by have := hdb r; omega)
      rw [S9.out.nti.tot] at HCN4
      obtain ⟨R4, hR4⟩ : ∃ R, R = (ir .i64 (drC 1 s9.nt) 64).toArray := ⟨_, rfl⟩
      rw [← hR4] at HDR0 HCN4
      have HR4 := Lib.hid hR4
      have hr4s : R4.size = 64 := by rw [hR4]; exact ir_size _ _ _
      have hr4a : R4.all (·.oneCell') = true := by rw [hR4]; exact ir_all _ _ _
      obtain ⟨V4, hV4⟩ : ∃ V, V = Value.agg R4 := ⟨_, rfl⟩
      rw [← hV4] at HDR0
      have HDR := Lib.hid HDR0
      have HCN4 := Lib.hid HCN4
      have HV4 := Lib.hid hV4
      have HDB := Lib.hid hdb
      clear hR4 hV4 HDR0 hlen hdb HCN
      go_wp2_with fail
      refine HDR.out.mono ?_
      rintro e w10 ⟨rfl, hb10⟩
      have L10 := Lib.hid (L9.out.below hb10)
      have K10 := Lib.hid (K9.out.below hb10)
      clear hb10 HDR L9 K9
      go_upto_region 32 with (first
       | (refine wpList_store_row rfl 45 _ _ rfl w10.heap.size R4 rfl HV4.out 45 _ (heap_alloc_new _ _) (by rw [hr4s]; kernel_rfl) (by rw [hr4s]; rfl) hr4a ?_))
      generalize hW11 : World.setRow (World.alloc w10 _) _ R4 = w11
      obtain ⟨hj11, hb11⟩ := B6.row (G := G9) HR4.out L10.out.hi hW11
      obtain ⟨XD, hXD⟩ : ∃ X, X = w10.heap.size := ⟨_, rfl⟩
      rw [← hXD] at hj11 ⊢
      have L11 := Lib.hid (L10.out.below hb11)
      have K11 := Lib.hid (K10.out.below hb11)
      have J11 := Lib.hid hj11
      clear L10 K10 hb11 hj11 hXD hW11
      have HST0 := c_Stand (A := N) L11.out htb.1 (by omega) S9.out.wd HN.out hN5 S9.out.it hks HKS.out (fun n hn => S9.out.stAt (by rw [← HN.out]; exact Int.ofNat_lt.2 hn))
      obtain ⟨D, hD⟩ : ∃ D : Nat → Int, D = fun r => tC (gIt r) T9 t N := ⟨_, rfl⟩
      have hstd : ∀ r : Nat, stC t s9.M N r = D r := fun r => by
       rw [stC_tC, hD]
       exact S9.out.rep.tC_eq t N
      have hDb : ∀ r : Nat, 0 ≤ D r ∧ D r ≤ 500 := fun r => by rw [← hstd r]; have := stC_bd t s9.M N r; omega
      rw [ir64_congr (J := D) fun j _ => hstd j] at HST0
      have hbal : ∀ r : Nat, D r + drC 1 s9.nt r = C r := fun r => by rw [hD]; exact S9.out.bal r
      obtain ⟨cd, hcd⟩ : ∃ c, c = sumN D 64 := ⟨_, rfl⟩
      have hcnt : s9.M 6 = cd := by rw [hcd, hD]; exact S9.out.cnt
      have HCN5 := fun W => c_count20 (w := W) D (fun r => by have := hDb r; omega)
      rw [← hcd] at HCN5
      have hcdb : 0 ≤ cd ∧ cd ≤ 32000 := by
       have : ∀ n : Nat, 0 ≤ sumN D n ∧ sumN D n ≤ 500 * n := by
        intro n
        induction n with
        | zero => exact ⟨Int.le_refl _, Int.le_refl _⟩
        | succ n ih =>
          have := hDb n
          show 0 ≤ sumN D n + D n ∧ sumN D n + D n ≤ _
          omega
       have := this 64
       omega
      obtain ⟨R5, hR5⟩ : ∃ R, R = (ir .i64 D 64).toArray := ⟨_, rfl⟩
      rw [← hR5] at HST0 HCN5
      have HR5 := Lib.hid hR5
      have hr5s : R5.size = 64 := by rw [hR5]; exact ir_size _ _ _
      have hr5a : R5.all (·.oneCell') = true := by rw [hR5]; exact ir_all _ _ _
      obtain ⟨V5, hV5⟩ : ∃ V, V = Value.agg R5 := ⟨_, rfl⟩
      rw [← hV5] at HST0
      have HST := Lib.hid HST0
      have HCN5 := Lib.hid HCN5
      have HV5 := Lib.hid hV5
      have HDD := Lib.hid hDb
      have HBAL := Lib.hid hbal
      have HCNT := Lib.hid hcnt
      clear hR5 hV5 HST0 hD hstd hDb hbal hcd hcnt
      go_wp2_with fail
      refine HST.out.mono ?_
      rintro e w12 ⟨rfl, hb12⟩
      have L12 := Lib.hid (L11.out.below hb12)
      have K12 := Lib.hid (K11.out.below hb12)
      have J12 := Lib.hid (J11.out.below hb12)
      clear hb12 HST L11 K11 J11
      go_upto_region 33 with (first
       | (refine wpList_store_row rfl 45 _ _ rfl w12.heap.size R5 rfl HV5.out 45 _ (heap_alloc_new _ _) (by rw [hr5s]; kernel_rfl) (by rw [hr5s]; rfl) hr5a ?_))
      generalize hW13 : World.setRow (World.alloc w12 _) _ R5 = w13
      obtain ⟨hi13, hb13⟩ := B6.row (G := G9) HR5.out L12.out.hi hW13
      obtain ⟨XN, hXN⟩ : ∃ X, X = w12.heap.size := ⟨_, rfl⟩
      rw [← hXN] at hi13 ⊢
      have L13 := Lib.hid (L12.out.below hb13)
      have K13 := Lib.hid (K12.out.below hb13)
      have J13 := Lib.hid (J12.out.below hb13)
      have I13 := Lib.hid hi13
      clear L12 K12 J12 hb13 hi13 hXN hW13
      go_upto_region 34 with fail
      go_loopw [24] (fun iv W => ∃ n : Nat, iv = .int .i64 n ∧ n ≤ 64 ∧ Below w13.heap.size w13 W) (fun iv _ => 64 - (intOf iv).toNat)
      case atStart => exact ⟨0, rfl, by omega, Below.refl _ _⟩
      case round =>
       obtain ⟨n, rfl, hn, hb⟩ := hrel
       have BR := Lib.hid hb
       clear hb
       by_cases hn2 : n < 64
       · have a1 := (I13.out.below BR.out).cell hn2
         have a2 := (J13.out.below BR.out).cell hn2
         have a3 := (K13.out.below BR.out).cell hn2
         have hbal := HBAL.out n
         have hd1 := HDD.out n
         have hd2 := HDB.out n
         rw [← hbal] at a3
         obtain ⟨dn, hdn⟩ : ∃ x, x = D n := ⟨_, rfl⟩
         obtain ⟨xn, hxn⟩ : ∃ x, x = drC 1 s9.nt n := ⟨_, rfl⟩
         rw [← hdn] at a1 a3 hd1
         rw [← hxn] at a2 a3 hd2
         have hnb0 : (0 : Int) ≤ (n : Int) := by omega
         have hnb1 : (n : Int) < 64 := by omega
         have hbn : Hid (∀ q, Below wr.heap.size wr (wr.drewN q)) := Lib.hid fun q => ⟨rfl, rfl, rfl, Nat.le_refl _, fun _ _ => rfl⟩
         clear hbal hdn hxn
         go_wp2_with fail
         go_quiet (fail)
         go_wp2_with fail
         go_roundw
         case rel => exact ⟨n + 1, by go_num, by omega, BR.out.trans ((hbn.out nq).mono BR.out.size)⟩
         case measure => simp [intOf]; omega
       · have hn6 : n = 64 := by omega
         subst hn6
         have L14 := Lib.hid (L13.out.below BR.out)
         have J14 := Lib.hid (J13.out.below BR.out)
         have I14 := Lib.hid (I13.out.below BR.out)
         clear hn hn2 L13 K13 J13 I13 BR
         have HPK : Hid (∀ e : Later wr, Calls Tryz.prog 10 #[.pointer (some ⟨B.c, 0, none⟩), .int .u64 6] (via wr e) fun e_1 w' => e_1 = .returned (.int .u64 cd) ∧ via wr e = w') := Lib.hid fun e => by
          have h := L14.out.peek 6 (by decide) (by decide) _ (via_below wr e)
          rw [HCNT.out] at h
          exact h
         have HOD : Hid (∀ e : Later wr, Calls Tryz.prog 24 #[.pointer (some ⟨B.p, 0, none⟩)] (via wr e) fun e_1 w' => e_1 = .returned (.int .i64 0) ∧ Below (via wr e).heap.size (via wr e) w') := Lib.hid fun e => c_Odds (L14.out.below (via_below wr e)) S9.out.odd
         have ldD : ∀ e : Later wr, (ld64 ⟨XD, 0, none⟩).run Tryz.prog (via wr e) = .ok R4 (via wr e) := fun e => by rw [HR4.out]; exact (J14.out.h.below (via_below wr e)).ld
         have ldN : ∀ e : Later wr, (ld64 ⟨XN, 0, none⟩).run Tryz.prog (via wr e) = .ok R5 (via wr e) := fun e => by rw [HR5.out]; exact (I14.out.h.below (via_below wr e)).ld
         have p0 := L14.out.p.wo.c0
         have hpl := L14.out.p.wo.lt
         clear J14 I14
         have HCX : Hid (∀ (R : Array Value) (c : Int), (R = R4 ∧ c = lost) ∨ (R = R5 ∧ c = cd) → ∀ W, Calls Tryz.prog 14 #[.agg R] W fun e w' => e = .returned (.int .i64 c) ∧ Below W.heap.size W w') := Lib.hid (by
          rintro R c (⟨rfl, rfl⟩ | ⟨rfl, rfl⟩) W
          · exact HCN4.out W
          · exact HCN5.out W)
         clear HCN4 HCN5
         go_upto_region 38 with fail
         refine wp_region_via (by kernel_rfl) (by kernel_rfl) ?_
         repeat (go_big_quiet_step ((first
          | (go_at_call 14; exact viaB (HCX.out _ _ (by first | exact .inl ⟨rfl, rfl⟩ | exact .inr ⟨rfl, rfl⟩) _))
          | (go_at_call 10; exact viaS (HPK.out _))
          | (go_at_call 24; exact viaB (HOD.out _))
          | (go_at_call 7; exact viaB (c_lives20 _)))))
         refine wpQuiet_nil ?_
         rintro _ ⟨e, rfl⟩
         go_wp2_with fail
         go_ret
         exact ⟨rfl, L14.out.bel.trans ((via_below wr e).mono L14.out.bel.size)⟩
end
end Go.Proofs.YtfnmdafpdcgcmaaGreat
