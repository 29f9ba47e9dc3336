/- Layer 20: a Run of a Move, whatever it meets. Layer 20: MovesLost. -/
import Derived.Test.YtfnmdafpdcgcmaaGreatZX
import Derived.Test.YtfnmdafpdcgcmaaGreatZ9
import Derived.Test.YtfnmdafpdcgcmaaGreatZT
namespace Go.Proofs.YtfnmdafpdcgcmaaGreat
set_option linter.unusedSimpArgs false
section
set_option linter.unusedVariables false
open Go.RowKit Go.Shelf
theorem it_out (p : Spt) (s : AW) (o : Otm) : (outStep p s o).1.it = s.it := by unfold outStep; (repeat' split); all_goals rfl
theorem it_put (p : Spt) (tg rf : Int) (s : AW) (o : Otm) : (putStep p tg rf s o).1.it = s.it := by unfold putStep; (repeat' split); all_goals rfl
theorem it_wy (x : AW × Wym) : (wyStep x).1.it = x.1.it := by unfold wyStep; (repeat' split); all_goals rfl
theorem it_ho (x : AW × Hom) : (hoStep x).1.it = x.1.it := by
 unfold hoStep
 repeat' split
 all_goals first | rfl | exact it_out _ _ _ | exact it_put _ _ _ _ _
theorem it_rm (mo : Int) (x : AW × Rmm) : (rmStep mo x).1.it = x.1.it := by
 unfold rmStep
 repeat' split
 all_goals (try dsimp only)
 all_goals (try split)
 all_goals first | rfl | exact it_wy (x.1, x.2.wy) | exact it_ho (x.1, x.2.ho)
theorem it_mv (mo : Int) (s : AW) (z : Mvm) : (mvStep mo (s, z)).1.it = s.it := by
 by_cases g1 : z.ln = 1
 · rw [mvStep_1 _ _ _ g1]; rfl
 by_cases g2 : z.ln = 2
 · rw [mvStep_2 _ _ _ g2]; rfl
 by_cases g3 : z.ln = 3
 · rw [mvStep_3 _ _ _ g3]; exact it_rm mo (s, z.rm)
 by_cases g4 : z.ln = 4
 · rw [mvStep_4 _ _ _ g4]; rfl
 by_cases g5 : z.ln = 5
 · rw [mvStep_5 _ _ _ g5]; exact it_out _ _ _
 by_cases g6 : z.ln = 6
 · rw [mvStep_6 _ _ _ g6]; exact it_put _ _ _ _ _
 by_cases g7 : z.ln = 7
 · rw [mvStep_7 _ _ _ g7]; rfl
 by_cases g8 : z.ln = 8
 · rw [mvStep_8 _ _ _ g8]; rfl
 by_cases g9 : z.ln = 9
 · rw [mvStep_9 _ _ _ g9]
   dsimp only
   split
   · exact it_out z.p s z.o
   · exact it_out z.p s z.o
 by_cases g10 : z.ln = 10
 · rw [mvStep_10 _ _ _ g10]; rfl
 by_cases g11 : z.ln = 11
 · rw [mvStep_11 _ _ _ g11]; rfl
 unfold mvStep
 dsimp only
 rw [if_neg g1, if_neg g2, if_neg g3, if_neg g4, if_neg g5, if_neg g6, if_neg g7, if_neg g8, if_neg g9, if_neg g10, if_neg g11]
theorem c_MvRunF {w : World} {O : Om} {B : Wb} {f : Cf} {s : AW} {k : Nat} (X : Nat) (z : Mvm) (m : Nat) (hz : MvOk z) (l0 : 0 ≤ z.lost) (l1 : z.lost ≤ z.p.s) (hil : s.it.length ≤ 1000000) (hks : ∀ r, (itOf s.it r).key.size ≤ maxLen)
 (hP : PW w O B f s) (hX : MvAt w O k X z) (hk : 10 ≤ k) (hhi : ∀ j, O j ≠ 0 → j < w.heap.size) (n0 : 0 ≤ s.n) (n1 : s.n + m ≤ 4611686018427387904) :
 Calls Tryz.prog 19 #[.pointer (some ⟨B.p, 0, none⟩), .iface 57 (.pointer (some ⟨X, 0, none⟩)), .int .i64 m] w (RP (SX k (k + 24)) w O (.int .i64 (runN mvOver (mvStep f.y) m (s, z)).1) fun W G => PW W G B f (runN mvOver (mvStep f.y) m (s, z)).2.1 ∧ MvAt W G k X (runN mvOver (mvStep f.y) m (s, z)).2.2) := by
 refine (c_RunG mvOver (mvStep f.y) (SX k (k + 24)) (fun W G y => PW W G B f y.1 ∧ MvAt W G k X y.2 ∧ MvOk y.2 ∧ (0 ≤ y.2.lost ∧ y.2.lost ≤ y.2.p.s) ∧ y.1.it = s.it) B.p X 57 20 137 (m_MvOver _) (m_MvStep _)
  (run_enter Tryz.func20 (by kernel_rfl) (by kernel_rfl)) (run_enter Tryz.func137 (by kernel_rfl) (by kernel_rfl)) ?_ ?_ (fun y => One.mv f.y y) w O m (s, z) ⟨hP, hX, hz, ⟨l0, l1⟩, rfl⟩ hhi n0 n1).mono ?_
 · rintro W G y ⟨h1, h2, h3, -, -⟩
   exact c_MvOver h2 h3.l0 h3.l11
 · rintro W G ⟨s1, z1⟩ ⟨h1, h2, h3, h4, h5⟩ ho hh q0 q1
   dsimp only at h1 h2 h3 h4 h5 q0 q1
   have hl : z1.ln ≠ 0 := fun e => by
    unfold mvOver at ho
    dsimp only at ho
    rw [e] at ho
    cases ho
   have hs1 := (h3.p hl).s1
   refine (c_MvStep h3 h1 h2 hl h4.1 (by omega) (by rw [h5]; exact hil) (by rw [h5]; exact hks) hk hh q0 q1).mono ?_
   intro e w' hp2
   exact ⟨_, RP.mono hp2 (fun _ _ h => h) fun W1 G1 h => ⟨h.1, h.2, h3.step f.y h1.bd, mvStep_lost f.y s1 z1 h4.1 h4.2, (it_mv f.y s1 z1).trans h5⟩⟩
 · intro e w' hp2
   exact RP.mono hp2 (fun _ _ h => h) fun W1 G1 h => ⟨h.1, h.2.1⟩
end
section
set_option linter.unusedVariables false
set_option maxHeartbeats 40000000
set_option maxRecDepth 100000
open Go.RowKit Go.Shelf
theorem w_MovesLost (v : Value) (F : Ful) (which : Int) (full : Bool) (w : World) (g : FulBd F) (c : FulAt w v F) (r0 : 0 ≤ which) (r1 : which ≤ 255) :
 Calls Tryz.prog 4 #[v, .int .u8 which, .bool full] w fun e w' => e = .returned (.bool true) ∧ Below w.heap.size w w' := by
 have HG : Hid (∀ W, Below w.heap.size w W → Calls Tryz.prog 6 #[v] W (FulGreat W F)) := Lib.hid fun W hb => c_Great17 (c.below hb) g
 have HM : Hid (∀ W, Below w.heap.size w W → F.ks.length ≤ 40 → F.ly.length ≤ 80 → Calls Tryz.prog 8 #[v] W (FulPost W F)) := Lib.hid fun W hb hk hl => c_FulWorld (c.below hb) g hk hl
 obtain ⟨vk, vl, vs, rfl, -, -, -⟩ := c.ex
 obtain ⟨b, hb⟩ : ∃ b, b = fulB F := ⟨_, rfl⟩
 have hbi : 1 ≤ b ∧ b ≤ 3 := by rw [hb]; unfold fulB; have := g.b0; omega
 have HKS := Lib.hid g.ks
 unfold FulPost at HM
 unfold FulGreat at HG
 rw [← hb] at HM
 unfold fulV at HG HM ⊢
 clear c g hb
 go_enter Tryz.func4, Tryz.ntmps4
 have hbox := fulBox (w := w) (F := F) (vk := vk) (vl := vl) (vs := vs) 26
 unfold fulC at hbox
 have hb0 := (Below.refl w.heap.size w).alloc (Nat.le_refl _) (.cells #[.int .u8 F.bi, vk, vl, .string F.ky, .int .u8 F.mo, vs] 26)
 have hl0 : w.heap.size < (w.alloc (.cells #[.int .u8 F.bi, vk, vl, .string F.ky, .int .u8 F.mo, vs] 26)).heap.size := by simp
 have y0 := hbox 0 _ rfl
 have y1 := hbox 1 _ rfl
 have y2 := hbox 2 _ rfl
 have y3 := hbox 3 _ rfl
 have y4 := hbox 4 _ rfl
 have y5 := hbox 5 _ rfl
 go_wp2_with fail
 obtain ⟨W0, hW0⟩ : ∃ W, W = w.alloc (.cells #[.int .u8 F.bi, vk, vl, .string F.ky, .int .u8 F.mo, vs] 26) := ⟨_, rfl⟩
 rw [← hW0] at hbox hb0 hl0 ⊢
 have HB0 := Lib.hid hb0
 have HL0 := Lib.hid hl0
 have HBX := Lib.hid hbox
 clear hW0 y0 y1 y2 y3 y4 y5 hbox hb0 hl0
 refine (HG.out W0 HB0.out).mono ?_
 rintro e w1 ⟨gr, rfl, hb1, hg⟩
 have B1 : Hid (Below w.heap.size w w1) := Lib.hid (HB0.out.trans (hb1.mono HB0.out.size))
 cases gr with
 | true =>
   clear hg hb1
   go_wp2_with fail
   refine (c_lives20 w1).mono ?_
   rintro e w2 ⟨rfl, hb2⟩
   go_wp2_with fail
   go_ret
   exact ⟨rfl, B1.out.trans (hb2.mono B1.out.size)⟩
 | false =>
   obtain ⟨hks, hly, -⟩ := hg rfl
   have hbx : ∀ j u, [Value.int .u8 F.bi, vk, vl, .string F.ky, .int .u8 F.mo, vs][j]? = some u → w1.cell? ⟨w.heap.size, j, none⟩ = some u := fun j u hu => (hb1.cell (p := ⟨w.heap.size, j, none⟩) HL0.out).trans (HBX.out j u hu)
   have y0 := hbx 0 _ rfl
   have y1 := hbx 1 _ rfl
   have y2 := hbx 2 _ rfl
   have y3 := hbx 3 _ rfl
   have y4 := hbx 4 _ rfl
   have y5 := hbx 5 _ rfl
   clear hg hb1 hbx HBX HL0 HB0 HG
   go_wp2_with fail
   refine (HM.out w1 B1.out hks hly).mono ?_
   rintro e w2 ⟨B, O2, s0, rfl, hP, hE, hS⟩
   clear y0 y1 y2 y3 y4 y5 HM
   have L2 := Lib.hid (LW.from ⟨hP, hE⟩ B1.out)
   have FS := Lib.hid hS
   have hwd := hS.fil.wd
   clear hP hE hS B1
   have p0 := L2.out.p.wo.c0
   have HPK := Lib.hid (L2.out.peek 2 (by decide) (by decide) w2 (Below.refl _ _))
   rw [hwd] at HPK
   have HAS := c_As b w2 (by omega) (by omega)
   rw [plOld_one hbi.1 (by omega), plNow_one hbi.1 (by omega)] at HAS
   have HAS := Lib.hid HAS
   obtain ⟨t, ht⟩ : ∃ t, t = plWord b (b + 1) := ⟨_, rfl⟩
   have htb := plWord_bd b (b + 1)
   rw [← ht] at htb
   have HWD : Hid (∀ W, Calls Tryz.prog 11 #[.int .i64 b, .int .i64 (b + 1)] W fun e w' => e = .returned (.int .u64 t) ∧ W = w') := Lib.hid fun W => by rw [ht]; exact c_Word b (b + 1) W
   have HST := Lib.hid (c_StoreP 2 t (w := w2) L2.out.p L2.out.hi (by decide) (by decide) htb.1 (by omega) FS.out.n0 (by have := FS.out.n1; omega))
   obtain ⟨s1, hs1⟩ : ∃ s1, s1 = awStore 2 t s0 := ⟨_, rfl⟩
   rw [← hs1] at HST
   have hn1 : 0 ≤ s1.n ∧ s1.n ≤ 1100 := by have := FS.out.n0; have := FS.out.n1; rw [hs1]; show 0 ≤ s0.n + 1 ∧ s0.n + 1 ≤ 1100; omega
   have HS1 := Lib.hid hs1
   have HTE := Lib.hid ht
   clear hwd ht hs1
   go_wp2_with fail
   refine HPK.out.mono ?_
   rintro e w' ⟨rfl, rfl⟩
   go_wp2_with fail
   refine HAS.out.mono ?_
   rintro e w' ⟨rfl, rfl⟩
   go_wp2_with fail
   refine (HWD.out _).mono ?_
   rintro e w' ⟨rfl, rfl⟩
   go_wp2_with fail
   refine HST.out.mono ?_
   rintro e w3 ⟨rfl, G3, e3, P3⟩
   have L3 := Lib.hid (L2.out.to e3 P3)
   clear HPK HAS HWD HST p0 e3 P3 L2
   have hz := fnvSize_up hbi.1 hbi.2
   obtain ⟨z, hze⟩ : ∃ z, z = fnvSize b := ⟨_, rfl⟩
   have HSZ : Hid (∀ W, Calls Tryz.prog 15 #[.int .i64 b] W fun e w' => e = .returned (.int .i64 z) ∧ W = w') := Lib.hid fun W => by rw [hze]; exact c_Size b W (by omega) (by omega)
   have HSN : Hid (∀ W, Calls Tryz.prog 15 #[.int .i64 (b + 1)] W fun e w' => e = .returned (.int .i64 (2 * z)) ∧ W = w') := Lib.hid fun W => by
    have h := c_Size (b + 1) W (by omega) (by omega)
    rw [hz.1, ← hze] at h
    exact h
   rw [← hze] at hz
   have HZ := Lib.hid hz
   have HZE := Lib.hid hze
   have hzb : 2 ≤ z ∧ z ≤ 8 := hz.2
   have hz0 : ¬ z = 0 := by omega
   clear hz hze
   go_wp2_with fail
   refine (HSZ.out _).mono ?_
   rintro e w' ⟨rfl, rfl⟩
   go_upto_region 12 with fail
   obtain ⟨qb, hqb⟩ : ∃ q, q = which % z := ⟨_, rfl⟩
   have hqbb : 0 ≤ qb ∧ qb < z := by rw [hqb]; exact ⟨Int.emod_nonneg _ hz0, Int.emod_lt_of_pos _ (by omega)⟩
   rw [← hqb]
   have hb4 := (Below.refl w3.heap.size w3).alloc (Nat.le_refl _) (.cells #[.int .i64 b, .int .i64 qb] 51)
   have v0 := cell_newA w3 #[.int .i64 b, .int .i64 qb] 51 _ rfl 0 _ rfl
   have v1 := cell_newA w3 #[.int .i64 b, .int .i64 qb] 51 _ rfl 1 _ rfl
   have hxl : w3.heap.size < (w3.alloc (.cells #[.int .i64 b, .int .i64 qb] 51)).heap.size := by simp
   obtain ⟨w4, hw4⟩ : ∃ W, W = w3.alloc (.cells #[.int .i64 b, .int .i64 qb] 51) := ⟨_, rfl⟩
   rw [← hw4] at hb4 v0 v1 hxl ⊢
   have hxo : G3 w3.heap.size = 0 := by
    by_cases q : G3 w3.heap.size = 0
    · exact q
    · exact absurd (L3.out.hi _ q) (by omega)
   obtain ⟨X, hX⟩ : ∃ X, X = w3.heap.size := ⟨_, rfl⟩
   rw [← hX] at v0 v1 hxl hxo ⊢
   have L4 := Lib.hid (L3.out.below hb4)
   have X4 : Hid (XB X b qb w4 G3) := Lib.hid ⟨hxo, hxl, v0, v1⟩
   clear hw4 hX hb4 v0 v1 hxl hxo L3 hqb HAS
   go_loopw [12, 13] (fun mv iv wr => ∃ n : Nat, iv = .int .i64 n ∧ mv = .int .i64 (miC (tabOf s1.M) b qb n) ∧ n ≤ 4 ∧ Below w4.heap.size w4 wr) (fun _ iv _ => 4 - (intOf iv).toNat)
   case atStart => exact ⟨0, rfl, rfl, by omega, Below.refl _ _⟩
   case round =>
    obtain ⟨n, rfl, rfl, hn, hb⟩ := hrel
    have BR := Lib.hid hb
    clear hb
    have hmb := miC_bd (tabOf s1.M) b qb n
    by_cases hn2 : n < 4
    · have v0 := (X4.out.below BR.out).c0
      have v1 := (X4.out.below BR.out).c1
      have L5 := L4.out.below BR.out
      have HS := c_Slot ⟨b, qb, n⟩ L5.p ⟨hbi.1, by dsimp only; omega, hqbb.1, by rw [← HZE.out]; exact hqbb.2, by dsimp only; omega, by dsimp only; omega⟩ L5.hi
      have htgb := twTag_bd (s1.M (⟨b, qb, n⟩ : Spt).tags) (⟨b, qb, n⟩ : Spt).s
      have HMI : Hid (miC (tabOf s1.M) b qb (n + 1) = miC (tabOf s1.M) b qb n + if twTag (s1.M (⟨b, qb, n⟩ : Spt).tags) (⟨b, qb, n⟩ : Spt).s = 0 then 0 else 1) := Lib.hid rfl
      obtain ⟨tg, htg⟩ : ∃ tg, tg = twTag (s1.M (⟨b, qb, n⟩ : Spt).tags) (⟨b, qb, n⟩ : Spt).s := ⟨_, rfl⟩
      obtain ⟨it, hit⟩ : ∃ it, it = s1.M (⟨b, qb, n⟩ : Spt).item := ⟨_, rfl⟩
      obtain ⟨mi, hmi⟩ : ∃ mi, mi = miC (tabOf s1.M) b qb n := ⟨_, rfl⟩
      rw [← htg] at HS HMI htgb
      rw [← hit] at HS
      rw [← hmi] at HMI hmb ⊢
      have HS := Lib.hid HS
      clear L5 htg hit hmi
      go_wp2_with fail
      refine HS.out.mono ?_
      rintro e w6 ⟨rfl, hb6⟩
      have B6 := Lib.hid (BR.out.trans (hb6.mono BR.out.size))
      clear hb6 HS v0 v1
      by_cases ht0 : tg = 0
      · have d0 : decide ((0 : Int) < tg) = false := decide_eq_false (by omega)
        rw [if_pos ht0] at HMI
        clear ht0
        go_wp2_with fail
        go_roundw
        case rel => exact ⟨n + 1, by go_num, by rw [HMI.out, Int.add_zero], by omega, B6.out⟩
        case measure => simp [intOf]; omega
      · have d0 : decide ((0 : Int) < tg) = true := decide_eq_true (by omega)
        rw [if_neg ht0] at HMI
        clear ht0
        go_wp2_with fail
        go_roundw
        case rel => exact ⟨n + 1, by go_num, by rw [HMI.out], by omega, B6.out⟩
        case measure => simp [intOf]; omega
    · have hn4 : n = 4 := by omega
      subst hn4
      obtain ⟨mi, hmi⟩ : ∃ mi, mi = miC (tabOf s1.M) b qb 4 := ⟨_, rfl⟩
      rw [← hmi] at hmb ⊢
      have HMI := Lib.hid hmi
      have L5 := Lib.hid (L4.out.below BR.out)
      have X5 := Lib.hid (X4.out.below BR.out)
      clear hmi hn hn2 L4 X4 BR
      go_upto_region 18 with fail
      have F5 : Hid (MlF b s1 0 s1) := Lib.hid (MlF.start b s1)
      go_loopw [16] (fun iv wr => ∃ (i : Nat) (G : Om) (s : AW), iv = .int .i64 i ∧ (i : Int) ≤ 2 * z ∧ (full = false → i = 0) ∧ LW w wr G B ⟨b, 8, 3, 1, 16⟩ s ∧ MlF b s1 i s ∧ XB X b qb wr G) (fun iv _ => (2 * z).toNat - (intOf iv).toNat)
      case atStart => exact ⟨0, G3, s1, rfl, by omega, fun _ => rfl, L5.out, F5.out, X5.out⟩
      case round =>
       clear L5 F5 X5
       obtain ⟨i, G6, s6, rfl, hi, hi0, hL, hF, hX⟩ := hrel
       have L6 := Lib.hid hL
       have F6 := Lib.hid hF
       have X6 := Lib.hid hX
       have hn6 : 0 ≤ s6.n ∧ s6.n ≤ 1200 := by have := hF.n0; have := hF.n1; omega
       have p0 := hL.p.wo.c0
       clear hL hF hX
       by_cases hgo : full = true ∧ (i : Int) < 2 * z
       · obtain ⟨hfu, hi2⟩ := hgo
         subst hfu
         have d0 : decide ((i : Int) < 2 * z) = true := decide_eq_true hi2
         have hwb : IntKind.i64.wrap (b + 1) = b + 1 := by simp [IntKind.wrap, IntKind.bits, IntKind.signed]; omega
         obtain ⟨ta, hta⟩ : ∃ ta, ta = plTags (b + 1) i := ⟨_, rfl⟩
         have htab : 0 ≤ ta ∧ ta < 18446744073709551616 := by rw [hta, plTags_b (by rw [HZ.out.1]; exact hi2)]; rw [HZ.out.1]; omega
         have HT : Hid (∀ W, Calls Tryz.prog 25 #[.agg #[.int .i64 (IntKind.i64.wrap (b + 1)), .int .i64 i]] W fun e w' => e = .returned (.int .u64 ta) ∧ Below W.heap.size W w') := Lib.hid fun W => by rw [hwb, hta]; exact c_Tags (b + 1) i W (by omega) (by omega) (by omega) (by omega)
         have ev : IntKind.u64.wrap (16843009 * IntKind.u64.wrap (IntKind.i64.wrap (1 + (i : Int)))) = 16843009 * ((i : Int) + 1) := by
          simp [IntKind.wrap, IntKind.bits, IntKind.signed]; omega
         obtain ⟨nv, hnv⟩ : ∃ nv, nv = 16843009 * ((i : Int) + 1) := ⟨_, rfl⟩
         have hnvb : 0 ≤ nv ∧ nv < 18446744073709551616 := by omega
         have HST : Hid (∀ W, LW w W G6 B ⟨b, 8, 3, 1, 16⟩ s6 → Calls Tryz.prog 12 #[.pointer (some ⟨B.c, 0, none⟩), .int .u64 ta, .int .u64 (IntKind.u64.wrap (16843009 * IntKind.u64.wrap (IntKind.i64.wrap (1 + (i : Int)))))] W (RP SW W G6 (.int .u64 (s6.M ta)) fun W' G => PW W' G B ⟨b, 8, 3, 1, 16⟩ (awStore ta nv s6))) := Lib.hid fun W hW => by
          rw [ev, ← hnv]; exact c_StoreP ta nv hW.p hW.hi htab.1 htab.2 hnvb.1 hnvb.2 hn6.1 (by omega)
         have F7 : Hid (MlF b s1 (i + 1) (awStore ta nv s6)) := Lib.hid (by rw [hta, hnv]; exact F6.out.more (by rw [HZ.out.1]; exact hi2))
         have LD := Lib.hid (L6.out.below (drew_below wr))
         have XD := Lib.hid (X6.out.below (drew_below wr))
         clear hta ev hnv hwb
         go_wp2_with fail
         refine (HSN.out _).mono ?_
         rintro e w' ⟨rfl, rfl⟩
         go_wp2_with fail
         go_region_held3 (fun w' => w'.cell? ⟨B.p, 0, none⟩ = some (.pointer (some ⟨B.c, 0, none⟩))) (go_keep)
          ((first
            | (go_at_call 25
               refine (HT.out _).mono ?_
               rintro e w7 ⟨rfl, hb7⟩
               have L7 := Lib.hid (LD.out.below hb7)
               have X7 := Lib.hid (XD.out.below hb7)
               have p07 := L7.out.p.wo.c0
               clear hb7)
            | (go_at_call 12
               refine (HST.out _ L7.out).mono ?_
               rintro e w8 ⟨rfl, G8, e8, P8⟩
               have L8 := Lib.hid (L7.out.to e8 P8)
               have X8 := Lib.hid (X7.out.ext e8 sw0)
               have q08 := L8.out.p.wo.c0
               clear e8 P8)))
         all_goals
          go_wp2_with fail
          go_roundw
          case rel =>
           refine ⟨_, _, _, _, _, _, _, _, _, _, _, _, _, _, _, _, _, _, _, _, _, _, _, _, _, ?_, rfl⟩
           exact ⟨i + 1, G8, _, by go_num, by omega, fun x => (by cases x), L8.out, F7.out, X8.out⟩
          case measure => simp [intOf]; omega
       · have hfin : Hid ((i : Int) = if full = true then fnvSize (b + 1) else 0) := Lib.hid (by
          cases full with
          | true => rw [if_pos rfl, HZ.out.1]; have : ¬ (i : Int) < 2 * z := fun x => hgo ⟨rfl, x⟩; omega
          | false => rw [if_neg (by decide), hi0 rfl]; rfl)
         clear hgo
         have hqz : qb < fnvSize b := by rw [← HZE.out]; exact hqbb.2
         obtain ⟨hS, hT, hwd6, hit6⟩ := MlS.of FS.out hks hqbb.1 hqz HS1.out F6.out hfin.out
         obtain ⟨A, hA⟩ : ∃ A : Nat, (A : Int) = plSpots (b + 1) := ⟨(plSpots (b + 1)).toNat, by have := plSpots_bd (b + 1); omega⟩
         have hA5 : A ≤ 500 := by have := plSpots_one (b := b + 1) (by omega) (by omega); rw [HZ.out.1] at this; omega
         obtain ⟨cn, y, zz, MR⟩ := ml_run hS hA
         have HMI2 : Hid (mi = miC (tabOf s6.M) b qb 4) := Lib.hid (by
          rw [HMI.out]
          exact (miC_congr (fun k hk => hT ⟨b, qb, k⟩ ⟨hbi.1, by dsimp only; omega, hqbb.1, hqz, by dsimp only; omega, by dsimp only; omega⟩ rfl) (Nat.le_refl 4)).symm)
         have HAT0 := c_at20 (A := A) L6.out (by omega) (by omega) hA hA5
         have HS6 := Lib.hid hS
         have HA := Lib.hid hA
         have HM6 := Lib.hid MR
         have HIT6 := Lib.hid hit6
         obtain ⟨R0, hR0⟩ : ∃ R, R = (ir .i64 (atI (b + 1) s6.M A) 64).toArray := ⟨_, rfl⟩
         rw [← hR0] at HAT0
         have HR0 := Lib.hid hR0
         have hr0s : R0.size = 64 := by rw [hR0]; exact ir_size _ _ _
         have hr0a : R0.all (·.oneCell') = true := by rw [hR0]; exact ir_all _ _ _
         obtain ⟨V0, hV0⟩ : ∃ V0, V0 = Value.agg R0 := ⟨_, rfl⟩
         rw [← hV0] at HAT0
         have HAT := Lib.hid HAT0
         have HV0 := Lib.hid hV0
         clear hS hT hA MR hR0 hwd6 hit6 hi hi0 p0 HAT0 hV0
         cases full
         rotate_left
         focus
          have d0 : decide ((i : Int) < 2 * z) = false := by
           have := hfin.out
           rw [if_pos rfl, HZ.out.1] at this
           exact decide_eq_false (by omega)
          go_wp2_with fail
          refine (HSN.out _).mono ?_
          rintro e w' ⟨rfl, rfl⟩
         rotate_left
         all_goals
          go_wp2_with fail
          refine HAT.out.mono ?_
          rintro e w7 ⟨rfl, hb7⟩
          have L7 := Lib.hid (L6.out.below hb7)
          have X7 := Lib.hid (X6.out.below hb7)
          clear hb7
          go_upto_region 22 with (first
           | (refine wpList_store_row rfl 45 _ _ rfl w7.heap.size R0 rfl HV0.out 45 _ (heap_alloc_new _ _) (by rw [hr0s]; kernel_rfl) (by rw [hr0s]; rfl) hr0a ?_))
          generalize hW8 : World.setRow (World.alloc w7 _) _ R0 = w8
          obtain ⟨hk8, hb8⟩ := B6.row (G := G6) HR0.out L7.out.hi hW8
          obtain ⟨XQ, hXQ⟩ : ∃ X, X = w7.heap.size := ⟨_, rfl⟩
          rw [← hXQ] at hk8 ⊢
          have L8 := Lib.hid (L7.out.below hb8)
          have X8 := Lib.hid (X7.out.below hb8)
          have K8 := Lib.hid hk8
          have v1 := X8.out.c1
          have HNM := Lib.hid (c_NewMove (w := w8) (O := G6) (k := 10) t qb htb.1 (by omega) (by omega) (by omega) (by decide) L8.out.hi)
          clear L7 X7 hb8 hk8 hXQ hW8
          go_wp2_with fail
          refine HNM.out.mono ?_
          rintro e w9 ⟨R, rfl, G9, e9, m9⟩
          have L9 := Lib.hid (L8.out.ext e9 (by decide) (by decide) (by decide) (by decide))
          have X9 := Lib.hid (X8.out.ext e9 (by decide))
          have K9 := Lib.hid (K8.out.ext e9 (by decide))
          have HR := c_MvRunF (k := 10) R (mvNew t qb) 9000 (mvNew_ok t qb) (by unfold mvNew; split <;> exact Int.le_refl _) (by unfold mvNew; split <;> exact Int.le_refl _) (by rw [HIT6.out, List.length_map]; omega) (by rw [HIT6.out]; exact itOf_ful HKS.out) L9.out.p m9 (by decide) L9.out.hi hn6.1 (by omega)
          rw [HTE.out] at HR
          have hrun := HM6.out.run
          have hf16 : (⟨b, 8, 3, 1, 16⟩ : Cf).y = 16 := rfl
          rw [hf16, hrun] at HR
          dsimp only at HR
          rw [show ((9000 : Nat) : Int) = 9000 from rfl] at HR
          have HR := Lib.hid HR
          clear L8 X8 K8 v1 HNM e9 m9 hrun hf16
          go_wp2_with fail
          refine HR.out.mono ?_
          rintro e w10 ⟨rfl, G10, e10, P10, m10⟩
          have L10 := Lib.hid (L9.out.to e10 P10)
          have X10 := Lib.hid (X9.out.ext e10 (sx0 (by decide)))
          have K10 := Lib.hid (K9.out.ext e10 (sx0 (by decide)))
          have M10 := Lib.hid m10
          have hz0l : zz.ln = 0 := by have := HM6.out.ov; unfold mvOver at this; simpa using this
          have hbd := HM6.out.lost
          have hmib := miC_bd (tabOf s6.M) b qb 4
          have hlen : y.nt.length ≤ 1000000 := by
           have := HM6.out.nti.len
           rw [hbd] at this
           split at this <;> omega
          have HDR0 := c_drops L10.out HM6.out.nti.dr hlen
          have hdb : ∀ i, 0 ≤ drC 1 y.nt i ∧ drC 1 y.nt i ≤ 100000 := fun i => by
           have := drC_bd 1 y.nt i
           have h2 := HM6.out.nti.len
           rw [hbd] at h2
           split at h2 <;> omega
          have HCN0 := fun W => c_count20 (w := W) (drC 1 y.nt) hdb
          rw [HM6.out.nti.tot, hbd] at HCN0
          obtain ⟨R1, hR1⟩ : ∃ R, R = (ir .i64 (drC 1 y.nt) 64).toArray := ⟨_, rfl⟩
          rw [← hR1] at HDR0 HCN0
          have HR1 := Lib.hid hR1
          have hr1s : R1.size = 64 := by rw [hR1]; exact ir_size _ _ _
          have hr1a : R1.all (·.oneCell') = true := by rw [hR1]; exact ir_all _ _ _
          obtain ⟨V1, hV1⟩ : ∃ V1, V1 = Value.agg R1 := ⟨_, rfl⟩
          rw [← hV1] at HDR0 HCN0
          have HDR := Lib.hid HDR0
          have HCN := Lib.hid HCN0
          have HV1 := Lib.hid hV1
          have HZL := Lib.hid hz0l
          have HBD := Lib.hid hbd
          clear L9 X9 K9 e10 P10 m10 HR hR1 hV1 HDR0 HCN0 hdb hlen hbd hz0l
          go_wp2_with fail
          refine HDR.out.mono ?_
          rintro e w11 ⟨rfl, hb11⟩
          have L11 := Lib.hid (L10.out.below hb11)
          have X11 := Lib.hid (X10.out.below hb11)
          have K11 := Lib.hid (K10.out.below hb11)
          have M11 := Lib.hid (M10.out.below L10.out.hi hb11)
          clear hb11 HDR L10 X10 K10 M10
          go_upto_region 25 with (first
           | (refine wpList_store_row rfl 45 _ _ rfl w11.heap.size R1 rfl HV1.out 45 _ (heap_alloc_new _ _) (by rw [hr1s]; kernel_rfl) (by rw [hr1s]; rfl) hr1a ?_))
          generalize hW12 : World.setRow (World.alloc w11 _) _ R1 = w12
          obtain ⟨hj12, hb12⟩ := B6.row (G := G10) HR1.out L11.out.hi hW12
          obtain ⟨XR, hXR⟩ : ∃ X, X = w11.heap.size := ⟨_, rfl⟩
          rw [← hXR] at hj12 ⊢
          have L12 := Lib.hid (L11.out.below hb12)
          have X12 := Lib.hid (X11.out.below hb12)
          have K12 := Lib.hid (K11.out.below hb12)
          have J12 := Lib.hid hj12
          have M12 := M11.out.below L11.out.hi hb12
          have HOV := c_MvOver M12 (by rw [HZL.out]; decide) (by rw [HZL.out]; decide)
          rw [HM6.out.ov] at HOV
          have HOV := Lib.hid HOV
          have M12 := Lib.hid M12
          have HEM := Lib.hid (c_empty20 L12.out hbi.1 (by omega) hqbb.1 hqz HM6.out.emp)
          have v0 := X12.out.c0
          have v1 := X12.out.c1
          clear L11 X11 K11 M11 hb12 hj12 hXR hW12
          go_wp2_with fail
          refine HOV.out.mono ?_
          rintro e w' ⟨rfl, rfl⟩
          go_wp2_with fail
          refine HEM.out.mono ?_
          rintro e w13 ⟨rfl, hb13⟩
          have L13 := Lib.hid (L12.out.below hb13)
          have K13 := Lib.hid (K12.out.below hb13)
          have J13 := Lib.hid (J12.out.below hb13)
          have M13 := Lib.hid (M12.out.below L12.out.hi hb13)
          have HOD := Lib.hid (c_Odds L13.out HM6.out.odd)
          clear hb13 L12 X12 K12 J12 M12 HOV HEM v0 v1
          go_wp2_with fail
          refine HOD.out.mono ?_
          rintro e w14 ⟨rfl, hb14⟩
          have L14 := Lib.hid (L13.out.below hb14)
          have K14 := Lib.hid (K13.out.below hb14)
          have J14 := Lib.hid (J13.out.below hb14)
          have M14 := Lib.hid (M13.out.below L13.out.hi hb14)
          clear hb14 L13 K13 J13 M13 HOD
         · have hbd := HBD.out
           rw [if_neg (by decide)] at hbd
           have HCN1 := HCN.out
           rw [if_neg (by decide), HV1.out] at HCN1
           have HCN1 := Lib.hid HCN1
           have HLO := c_MvLost M14.out
           rw [hbd] at HLO
           have HLO := Lib.hid HLO
           have hJ : (ld64 ⟨XR, 0, none⟩).run Tryz.prog w14 = .ok R1 w14 := by rw [HR1.out]; exact J14.out.h.ld
           have hfr := HM6.out.fr rfl
           rw [← HMI2.out] at hfr
           have hab : ∀ i, 0 ≤ atI (b + 1) y.M A i ∧ atI (b + 1) y.M A i ≤ 100000 := fun i => by have := atI_bd (b + 1) y.M A i; omega
           have HC2 := fun W => c_count20 (w := W) (atI (b + 1) y.M A) hab
           rw [show sumN (atI (b + 1) y.M A) 64 = mi from hfr] at HC2
           obtain ⟨R2, hR2⟩ : ∃ R, R = (ir .i64 (atI (b + 1) y.M A) 64).toArray := ⟨_, rfl⟩
           rw [← hR2] at HC2
           have HC2 := Lib.hid HC2
           have HR2 := Lib.hid hR2
           clear hbd hfr hab hR2 hmib
           go_wp2_with fail
           refine HLO.out.mono ?_
           rintro e w' ⟨rfl, rfl⟩
           go_wp2_with fail
           refine (HCN1.out _).mono ?_
           rintro e w15 ⟨rfl, hb15⟩
           have L15 := Lib.hid (L14.out.below hb15)
           have HA2 := c_at20 (A := A) L15.out (by omega) (by omega) HA.out hA5
           rw [← HR2.out] at HA2
           have HA2 := Lib.hid HA2
           clear hb15 L14 hJ HLO
           go_wp2_with fail
           refine HA2.out.mono ?_
           rintro e w16 ⟨rfl, hb16⟩
           have L16 := Lib.hid (L15.out.below hb16)
           clear hb16 L15 HA2
           go_wp2_with fail
           refine (HC2.out _).mono ?_
           rintro e w17 ⟨rfl, hb17⟩
           have L17 := Lib.hid (L16.out.below hb17)
           clear hb17 L16 HC2
           go_wp2_with fail
           refine (c_lives20 w17).mono ?_
           rintro e w18 ⟨rfl, hb18⟩
           go_wp2_with fail
           go_ret
           exact ⟨rfl, L17.out.bel.trans (hb18.mono L17.out.bel.size)⟩
         · have hbd := HBD.out
           rw [if_pos trivial, ← HMI2.out] at hbd
           have HCN1 := HCN.out
           rw [if_pos trivial, ← HMI2.out, HV1.out] at HCN1
           have HCN1 := Lib.hid HCN1
           have HLO : Hid (∀ e : Later w14, Calls Tryz.prog 21 #[.pointer (some ⟨R, 0, none⟩)] (via w14 e) fun e_1 w' => e_1 = .returned (.int .i64 mi) ∧ via w14 e = w') := Lib.hid fun e => by
            have h := c_MvLost (M14.out.below L14.out.hi (via_below w14 e))
            rw [hbd] at h
            exact h
           have eqR : ∀ W, (Op.equalIn 10000 45 (.agg R0) (.agg R0)).run Tryz.prog W = .ok true W := fun W => by rw [HR0.out]; exact eq_ir64i _ W
           have ldQ : ∀ e : Later w14, (ld64 ⟨XQ, 0, none⟩).run Tryz.prog (via w14 e) = .ok R0 (via w14 e) := fun e => by rw [HR0.out]; exact (K14.out.h.below (via_below w14 e)).ld
           have ldR : ∀ e : Later w14, (ld64 ⟨XR, 0, none⟩).run Tryz.prog (via w14 e) = .ok R1 (via w14 e) := fun e => by rw [HR1.out]; exact (J14.out.h.below (via_below w14 e)).ld
           have hat : (ir .i64 (atI (b + 1) y.M A) 64).toArray = R0 := by
            have hc : ∀ j, j < 64 → atI (b + 1) y.M A j = atI (b + 1) s6.M A j := fun j _ => tC_congr fun n hn => by
             have h := HM6.out.fu rfl n hn
             unfold tabOf at h ⊢
             rw [h.1, h.2]
            rw [HR0.out, ir64_congr hc]
           have HA2 : Hid (∀ e : Later w14, Calls Tryz.prog 16 #[.pointer (some ⟨B.p, 0, none⟩), .int .i64 (b + 1)] (via w14 e) fun e_1 w' => e_1 = .returned (.agg R0) ∧ Below (via w14 e).heap.size (via w14 e) w') := Lib.hid fun e => by
            have h := c_at20 (A := A) (L14.out.below (via_below w14 e)) (by omega) (by omega) HA.out hA5
            rw [hat] at h
            exact h
           clear hbd hat hmib
           go_upto_region 28 with fail
           refine wp_region_via (by kernel_rfl) (by kernel_rfl) ?_
           repeat (go_big_quiet_step ((first
            | (go_at_call 21; exact viaS (HLO.out _))
            | (go_at_call 14; exact viaB (HCN1.out _))
            | (go_at_call 16; exact viaB (HA2.out _))
            | (go_at_call 7; exact viaB (c_lives20 _)))))
           refine wpQuiet_nil ?_
           rintro _ ⟨e, rfl⟩
           go_wp2_with fail
           go_ret
           exact ⟨rfl, L14.out.bel.trans ((via_below w14 e).mono L14.out.bel.size)⟩
end
end Go.Proofs.YtfnmdafpdcgcmaaGreat
