/- Layer 21: TurnsAll. -/
import Derived.Test.YtfnmdafpdcgcmaaGreatZU
import Derived.Test.YtfnmdafpdcgcmaaGreatZW
import Derived.Test.YtfnmdafpdcgcmaaGreatZ0
import Derived.Test.YtfnmdafpdcgcmaaGreatZ3
import Derived.Test.YtfnmdafpdcgcmaaGreatZL
import Derived.Test.YtfnmdafpdcgcmaaGreatZK
namespace Go.Proofs.YtfnmdafpdcgcmaaGreat
set_option linter.unusedSimpArgs false
section
set_option linter.unusedVariables false
set_option maxHeartbeats 40000000
set_option maxRecDepth 100000
open Go.RowKit Go.Shelf
theorem w_TurnsAll (v : Value) (F : Ful) (quantum : Int) (w : World) (g : FulBd F) (c : FulAt w v F) (r0 : 0 ≤ quantum) (r1 : quantum ≤ 255) :
 Calls Tryz.prog 5 #[v, .int .u8 quantum] w fun e w' => e = .returned (.bool true) ∧ Below w.heap.size w w' := by
 have HG : Hid (∀ W, Below w.heap.size w W → Calls Tryz.prog 6 #[v] W (FulGreat W F)) := Lib.hid fun W hb => c_Great17 (c.below hb) g
 have HM : Hid (∀ W, Below w.heap.size w W → F.ks.length ≤ 40 → F.ly.length ≤ 80 → Calls Tryz.prog 8 #[v] W (FulPost W F)) := Lib.hid fun W hb hk hl => c_FulWorld (c.below hb) g hk hl
 obtain ⟨vk, vl, vs, rfl, -, -, -⟩ := c.ex
 obtain ⟨b, hb⟩ : ∃ b, b = fulB F := ⟨_, rfl⟩
 have hbi : 1 ≤ b ∧ b ≤ 3 := by rw [hb]; unfold fulB; have := g.b0; omega
 have HKS := Lib.hid g.ks
 have hmo := And.intro g.m0 g.m1
 unfold FulPost at HM
 unfold FulGreat at HG
 rw [← hb] at HM
 unfold fulV at HG HM ⊢
 clear c g hb
 go_enter Tryz.func5, Tryz.ntmps5
 have hbox := fulBox (w := w) (F := F) (vk := vk) (vl := vl) (vs := vs) 26
 unfold fulC at hbox
 have hb0 := (Below.refl w.heap.size w).alloc (Nat.le_refl _) (.cells #[.int .u8 F.bi, vk, vl, .string F.ky, .int .u8 F.mo, vs] 26)
 have hl0 : w.heap.size < (w.alloc (.cells #[.int .u8 F.bi, vk, vl, .string F.ky, .int .u8 F.mo, vs] 26)).heap.size := by simp
 have y0 := hbox 0 _ rfl
 have y1 := hbox 1 _ rfl
 have y2 := hbox 2 _ rfl
 have y3 := hbox 3 _ rfl
 have y4 := hbox 4 _ rfl
 have y5 := hbox 5 _ rfl
 go_wp2_with fail
 obtain ⟨W0, hW0⟩ : ∃ W, W = w.alloc (.cells #[.int .u8 F.bi, vk, vl, .string F.ky, .int .u8 F.mo, vs] 26) := ⟨_, rfl⟩
 rw [← hW0] at hbox hb0 hl0 ⊢
 have HB0 := Lib.hid hb0
 have HL0 := Lib.hid hl0
 have HBX := Lib.hid hbox
 clear hW0 y0 y1 y2 y3 y4 y5 hbox hb0 hl0
 refine (HG.out W0 HB0.out).mono ?_
 rintro e w1 ⟨gr, rfl, hb1, hg⟩
 have B1 : Hid (Below w.heap.size w w1) := Lib.hid (HB0.out.trans (hb1.mono HB0.out.size))
 cases gr with
 | true =>
   clear hg hb1
   go_wp2_with fail
   refine (c_lives21 w1).mono ?_
   rintro e w2 ⟨rfl, hb2⟩
   go_wp2_with fail
   go_ret
   exact ⟨rfl, B1.out.trans (hb2.mono B1.out.size)⟩
 | false =>
   obtain ⟨hks, hly, -⟩ := hg rfl
   have hbx : ∀ j u, [Value.int .u8 F.bi, vk, vl, .string F.ky, .int .u8 F.mo, vs][j]? = some u → w1.cell? ⟨w.heap.size, j, none⟩ = some u := fun j u hu => (hb1.cell (p := ⟨w.heap.size, j, none⟩) HL0.out).trans (HBX.out j u hu)
   have y0 := hbx 0 _ rfl
   have y1 := hbx 1 _ rfl
   have y2 := hbx 2 _ rfl
   have y3 := hbx 3 _ rfl
   have y4 := hbx 4 _ rfl
   have y5 := hbx 5 _ rfl
   have Y4 := Lib.hid y4
   have hq1 : w.heap.size < w1.heap.size := Nat.lt_of_lt_of_le HL0.out hb1.size
   clear hg hb1 hbx HBX HL0 HB0 HG
   go_wp2_with fail
   refine (HM.out w1 B1.out hks hly).mono ?_
   rintro e w2 ⟨B, O2, s0, rfl, hP, hE, hS⟩
   clear y0 y1 y2 y3 y4 y5 HM
   have y4 := (hE.bel.cell (p := ⟨w.heap.size, 4, none⟩) hq1).trans Y4.out
   have hqo : O2 w.heap.size = 0 := by
    by_cases q : O2 w.heap.size = 0
    · exact q
    · exact absurd (hE.base _ q) (by omega)
   have hq2 : w.heap.size < w2.heap.size := Nat.lt_of_lt_of_le hq1 hE.bel.size
   have L2 := Lib.hid (LW.from ⟨hP, hE⟩ B1.out)
   have FS := Lib.hid hS
   have hwd := hS.fil.wd
   clear hP hE hS B1 Y4
   have x6 := L2.out.p.wo.c6
   have f6 := L2.out.p.wo.fr 6
   go_upto_region 8 with fail
   obtain ⟨q, hqe⟩ : ∃ q, q = 1 + quantum % 8 := ⟨_, rfl⟩
   have hqb : 1 ≤ q ∧ q ≤ 8 := by omega
   rw [← hqe]
   obtain ⟨P3, e3⟩ := L2.out.p.setQu L2.out.hi q
   have hL3 : LW w _ O2 B ⟨b, 8, 3, q, 16⟩ s0 := ⟨P3, L2.out.e.ext e3⟩
   obtain ⟨w3, hw3⟩ : ∃ W, W = w2.setCell ⟨B.p, 6, none⟩ (.int .i64 q) := ⟨_, rfl⟩
   have y4 := (e3.cell (p := ⟨w.heap.size, 4, none⟩) hq2 (by show ¬ (O2 w.heap.size = 1); rw [hqo]; decide)).trans y4
   rw [← hw3] at hL3 y4 ⊢
   have L3 := Lib.hid hL3
   have x7 := L3.out.p.wo.c7
   have f7 := L3.out.p.wo.fr 7
   clear hw3 hqe P3 e3 hL3 x6 f6 L2 hq1 hq2 hqo r0 r1
   go_upto_region 9 with fail
   obtain ⟨mo, hmoe⟩ : ∃ mo, mo = 2 + F.mo % 20 := ⟨_, rfl⟩
   have hmob : 2 ≤ mo ∧ mo ≤ 21 := by omega
   rw [← hmoe]
   obtain ⟨P4, e4⟩ := L3.out.p.setWay L3.out.hi mo
   have hL4 : LW w _ O2 B ⟨b, 8, 3, q, mo⟩ s0 := ⟨P4, L3.out.e.ext e4⟩
   obtain ⟨w4, hw4⟩ : ∃ W, W = w3.setCell ⟨B.p, 7, none⟩ (.int .i64 mo) := ⟨_, rfl⟩
   rw [← hw4] at hL4 ⊢
   have L4 := Lib.hid hL4
   clear hw4 hmoe P4 e4 hL4 x7 f7 y4 L3 hmo
   have p0 := L4.out.p.wo.c0
   have HPK := Lib.hid (L4.out.peek 2 (by decide) (by decide) w4 (Below.refl _ _))
   rw [hwd] at HPK
   have HAS0 := c_As b w4 (by omega) (by omega)
   rw [plOld_one hbi.1 (by omega), plNow_one hbi.1 (by omega)] at HAS0
   have HAS := Lib.hid HAS0
   obtain ⟨t, ht⟩ : ∃ t, t = plWord b (b + 1) := ⟨_, rfl⟩
   have htb := plWord_bd b (b + 1)
   have hto := plOld_two hbi.1 (by omega : b ≤ 11)
   rw [← ht] at htb hto
   have hwr1 : IntKind.i64.wrap (b + 1) = b + 1 := by simp [IntKind.wrap, IntKind.bits, IntKind.signed]; omega
   have HWD : Hid (∀ W, Calls Tryz.prog 11 #[.int .i64 b, .int .i64 (IntKind.i64.wrap (b + 1))] W fun e w' => e = .returned (.int .u64 t) ∧ W = w') := Lib.hid fun W => by rw [ht, hwr1]; exact c_Word b (b + 1) W
   obtain ⟨s1, hs1⟩ : ∃ s1, s1 = awStore 2 t s0 := ⟨_, rfl⟩
   have HST : Hid (∀ W, LW w W O2 B ⟨b, 8, 3, q, mo⟩ s0 → Calls Tryz.prog 12 #[.pointer (some ⟨B.c, 0, none⟩), .int .u64 2, .int .u64 t] W (RP SW W O2 (.int .u64 (s0.M 2)) fun W' G => PW W' G B ⟨b, 8, 3, q, mo⟩ s1)) := Lib.hid fun W hW => by
    rw [hs1]; exact c_StoreP 2 t hW.p hW.hi (by decide) (by decide) htb.1 (by omega) FS.out.n0 (by have := FS.out.n1; omega)
   have hn1 : 0 ≤ s1.n ∧ s1.n ≤ 1100 := by have := FS.out.n0; have := FS.out.n1; rw [hs1]; show 0 ≤ s0.n + 1 ∧ s0.n + 1 ≤ 1100; omega
   have HS1 := Lib.hid hs1
   have HTO := Lib.hid hto
   have htne : ¬ t = plWord (b + 1) 0 := by rw [ht]; unfold plWord; omega
   have LD := Lib.hid (L4.out.below (drew_below w4))
   clear hwd ht hs1 HAS0 hto L4 hwr1
   go_wp2_with fail
   refine HPK.out.mono ?_
   rintro e w' ⟨rfl, rfl⟩
   go_wp2_with fail
   refine HAS.out.mono ?_
   rintro e w' ⟨rfl, rfl⟩
   go_wp2_with fail
   go_region_held3 (fun w' => w'.cell? ⟨B.p, 0, none⟩ = some (.pointer (some ⟨B.c, 0, none⟩))) (go_keep)
    ((first
      | (go_at_call 11
         refine (HWD.out _).mono ?_
         rintro e w7 ⟨rfl, rfl⟩
         have p07 := LD.out.p.wo.c0)
      | (go_at_call 12
         refine (HST.out _ LD.out).mono ?_
         rintro e w5 ⟨rfl, G3, e5, P5⟩
         have L5 := Lib.hid (LD.out.to e5 P5)
         have q05 := L5.out.p.wo.c0
         clear e5 P5)))
   clear HPK HAS HWD HST p0 LD p07 q05
   -- the spots of both tables
   have hz := fnvSize_up hbi.1 hbi.2
   obtain ⟨N, hN⟩ : ∃ N : Nat, (N : Int) = plSpots t := ⟨(plSpots t).toNat, by have := plSpots_bd t; omega⟩
   have hN5 : N ≤ 500 := by have := plSpots_eq t; rw [HTO.out.1, HTO.out.2] at this; omega
   have KK : Hid (TuK t b F.ks N) := Lib.hid ⟨hbi.1, hbi.2, HTO.out.1, HTO.out.2, hN, hks⟩
   have hT1 : ∀ p : Spt, p.ok → tabOf s1.M p = tabOf s0.M p := fun p hp => by rw [HS1.out]; exact tabOf_upd (by decide) hp
   have HSL : ∀ n : Nat, n < N → StAt t F.ks s1.M (plAt t n) := fun n hn => by
    have hok := plAt_ok t n
    have h := FS.out.fil.stT HTO.out.1 hok
    rw [← hT1 _ hok] at h
    rcases h with e | ⟨r, k, g1, g2, g3, g4⟩
    · exact .inl ⟨congrArg Prod.fst e, congrArg Prod.snd e⟩
    · exact .inr ⟨r, k, g1, g2, g3, g4⟩
   have hwd1 : s1.M 2 = t := by rw [HS1.out]; exact upd_same s0.M 2 t
   have hit1 : s1.it = F.ks.map fulIt := by rw [HS1.out]; exact FS.out.it
   obtain ⟨C, hC⟩ : ∃ C : Nat → Int, C = fun r => tC (gIt r) (tabOf s0.M) t N := ⟨_, rfl⟩
   have hstc : ∀ r : Nat, stC t s1.M N r = C r := fun r => by
    rw [stC_tC, hC]
    exact tC_congr fun i _ => by rw [hT1 _ (plAt_ok t i)]
   have HST0 := c_Stand (A := N) L5.out htb.1 (by omega) hwd1 hN hN5 hit1 hks HKS.out HSL
   rw [ir64_congr (J := C) fun j _ => hstc j] at HST0
   have hC1 : ∀ r : Nat, C r ≤ 1 := fun r => by rw [hC]; exact FS.out.fil.once KK.out r
   have hCb : ∀ r : Nat, 0 ≤ C r ∧ C r ≤ 1 := fun r => ⟨by rw [← hstc r]; have := stC_bd t s1.M N r; omega, hC1 r⟩
   obtain ⟨R0, hR0⟩ : ∃ R, R = (ir .i64 C 64).toArray := ⟨_, rfl⟩
   rw [← hR0] at HST0
   have hr0s : R0.size = 64 := by rw [hR0]; exact ir_size _ _ _
   have hr0a : R0.all (·.oneCell') = true := by rw [hR0]; exact ir_all _ _ _
   obtain ⟨V0, hV0⟩ : ∃ V0, V0 = Value.agg R0 := ⟨_, rfl⟩
   rw [← hV0] at HST0
   have HST := Lib.hid HST0
   have HV0 := Lib.hid hV0
   have HR0 := Lib.hid hR0
   have HC := Lib.hid hC
   have HCB := Lib.hid hCb
   clear hT1 HSL hwd1 hit1 hC hstc hCb hC1 hR0 hV0 HST0 hN
   go_wp2_with fail
   refine HST.out.mono ?_
   rintro e w6 ⟨rfl, hb6⟩
   have L6 := Lib.hid (L5.out.below hb6)
   clear hb6 HST L5
   go_upto_region 12 with (first
    | (refine wpList_store_row rfl 45 _ _ rfl w6.heap.size R0 rfl HV0.out 45 _ (heap_alloc_new _ _) (by rw [hr0s]; kernel_rfl) (by rw [hr0s]; rfl) hr0a ?_))
   generalize hW7 : World.setRow (World.alloc w6 _) _ R0 = w7
   obtain ⟨hk7, hb7⟩ := B6.row (G := G3) HR0.out L6.out.hi hW7
   obtain ⟨XW, hXW⟩ : ∃ X, X = w6.heap.size := ⟨_, rfl⟩
   rw [← hXW] at hk7 ⊢
   have L7 := Lib.hid (L6.out.below hb7)
   have K7 := Lib.hid hk7
   clear L6 hb7 hk7 hXW hW7
   have hsm : ∀ n : Nat, 0 ≤ sumN C n ∧ sumN C n ≤ n := by
    intro n
    induction n with
    | zero => exact ⟨Int.le_refl _, Int.le_refl _⟩
    | succ n ih =>
      have := HCB.out n
      show 0 ≤ sumN C n + C n ∧ sumN C n + C n ≤ _
      omega
   have HSM := Lib.hid hsm
   clear hsm
   go_upto_region 14 with fail
   go_loopw [11, 12] (fun lv iv wr => ∃ n : Nat, iv = .int .i64 n ∧ lv = .int .i64 (sumN C n) ∧ n ≤ 64 ∧ Below w7.heap.size w7 wr) (fun _ iv _ => 64 - (intOf iv).toNat)
   case atStart => exact ⟨0, rfl, rfl, Nat.zero_le _, Below.refl _ _⟩
   case round =>
    obtain ⟨n, rfl, rfl, hn, hb⟩ := hrel
    have BR := Lib.hid hb
    clear hb
    by_cases hn2 : n < 64
    · have a1 := (K7.out.below BR.out).cell hn2
      have hcn := HCB.out n
      have hsn := HSM.out n
      obtain ⟨cn, hcn0⟩ : ∃ x, x = C n := ⟨_, rfl⟩
      obtain ⟨sn, hsn0⟩ : ∃ x, x = sumN C n := ⟨_, rfl⟩
      have hnx : sumN C (n + 1) = sn + cn := by rw [hcn0, hsn0]; rfl
      have HNX := Lib.hid hnx
      rw [← hcn0] at a1 hcn
      rw [← hsn0] at hsn ⊢
      have hnb0 : (0 : Int) ≤ (n : Int) := by omega
      have hnb1 : (n : Int) < 64 := by omega
      clear hcn0 hsn0 hnx
      go_wp2_with fail
      go_roundw
      case rel => exact ⟨n + 1, by go_num, by rw [HNX.out], by omega, BR.out⟩
      case measure => simp [intOf]; omega
    · have hn6 : n = 64 := by omega
      subst hn6
      obtain ⟨cw, hcw⟩ : ∃ c, c = sumN C 64 := ⟨_, rfl⟩
      have hcwb : 0 ≤ cw ∧ cw ≤ 64 := by have := HSM.out 64; rw [hcw]; exact this
      rw [← hcw]
      have L8 := Lib.hid (L7.out.below BR.out)
      have K8 := Lib.hid (K7.out.below BR.out)
      obtain ⟨s2, hs2⟩ : ∃ s, s = awStore 6 cw s1 := ⟨_, rfl⟩
      have S2 : Hid (TuS t b F.ks N C s2 (tabOf s0.M) 0 0) := Lib.hid (by rw [hs2, HS1.out, HC.out]; exact TuS.start KK.out FS.out (by rw [hcw, HC.out]))
      have N2 : Hid (0 ≤ s2.n ∧ s2.n ≤ 2000) := Lib.hid (by rw [hs2]; show 0 ≤ s1.n + 1 ∧ s1.n + 1 ≤ 2000; omega)
      have p0 := L8.out.p.wo.c0
      have HSC := Lib.hid (c_StoreP 6 cw (w := wr) L8.out.p L8.out.hi (by decide) (by decide) hcwb.1 (by omega) hn1.1 (by omega))
      rw [← hs2] at HSC
      obtain ⟨zs, hze⟩ : ∃ z, z = fnvSize b := ⟨_, rfl⟩
      have HSZ : Hid (∀ W, Calls Tryz.prog 15 #[.int .i64 b] W fun e w' => e = .returned (.int .i64 zs) ∧ W = w') := Lib.hid fun W => by rw [hze]; exact c_Size b W (by omega) (by omega)
      rw [← hze] at hz
      have HZE := Lib.hid hze
      have hzb : 2 ≤ zs ∧ zs ≤ 8 := hz.2
      obtain ⟨v, hv⟩ : ∃ v, v = plWord (b + 1) 0 := ⟨_, rfl⟩
      have hvb : v = b + 1 := by rw [hv]; unfold plWord; omega
      rw [← hv] at htne
      have hwr1 : IntKind.i64.wrap (b + 1) = b + 1 := by simp [IntKind.wrap, IntKind.bits, IntKind.signed]; omega
      have HW1 := Lib.hid hwr1
      have HWD : Hid (∀ x, x = b + 1 → ∀ W, Calls Tryz.prog 11 #[.int .i64 x, .int .i64 0] W fun e w' => e = .returned (.int .u64 v) ∧ W = w') := Lib.hid fun x hx W => by rw [hv, hx]; exact c_Word (b + 1) 0 W
      clear hze hs2 hcw hn hn2 L7 K7 BR HS1 hv hz hwr1 y4
      go_wp2_with fail
      refine HSC.out.mono ?_
      rintro e w8 ⟨rfl, G8, e8, P8⟩
      have L9 := Lib.hid (L8.out.to e8 P8)
      have K9 := Lib.hid (K8.out.ext e8 sw0)
      clear e8 P8 HSC p0 L8 K8
      go_wp2_with fail
      refine (HSZ.out _).mono ?_
      rintro e w' ⟨rfl, rfl⟩
      clear HSZ
      go_upto_region 21 with fail
      go_loopw [14, 15] (fun lv iv wr => ∃ (k : Nat) (G : Om) (s : AW) (md : Int), iv = .int .i64 k ∧ lv = .int .i64 md ∧ LW w wr G B ⟨b, 8, 3, q, mo⟩ s ∧ B6 wr G XW C ∧ (0 ≤ s.n ∧ s.n ≤ 2000 + 90000 * k) ∧ (k : Int) ≤ zs + 1 ∧ ((∃ T lost, md = k * q ∧ md ≤ zs ∧ TuS t b F.ks N C s T lost md) ∨ (∃ T, md = zs ∧ 1 ≤ k ∧ ((k : Int) - 1) * q ≤ zs ∧ TuE t b F.ks N C s T))) (fun _ iv _ => 20 - (intOf iv).toNat)
      case atStart => exact ⟨0, G8, s2, 0, rfl, rfl, L9.out, K9.out, ⟨N2.out.1, by have := N2.out.2; omega⟩, by omega, .inl ⟨_, 0, by rw [Int.natCast_zero, Int.zero_mul], by omega, S2.out⟩⟩
      case round =>
       clear L9 K9 N2 S2
       obtain ⟨k, G, s, md, rfl, rfl, hL, hK, hsn, hk, hc⟩ := hrel
       have L1 := Lib.hid hL
       have K1 := Lib.hid hK
       clear hL hK
       have p0 := L1.out.p.wo.c0
       have dk : decide ((k : Int) ≤ zs + 1) = true := decide_eq_true hk
       rcases hc with ⟨T, lost, hmd, hmz, hS⟩ | ⟨T, hmd, hk1, hkq, hE⟩
       · have HPK := L1.out.peek 2 (by decide) (by decide) wr (Below.refl _ _)
         rw [hS.S.wd] at HPK
         have HPK := Lib.hid HPK
         have S1 := Lib.hid hS
         have HMD := Lib.hid hmd
         have HOK := Lib.hid (TuOk.new hsn.1)
         have HNT := Lib.hid (c_NewTurn L1.out.hi)
         obtain ⟨cn, y, zz, TR⟩ := tu_run KK.out S1.out (by rw [← HZE.out]; exact hmz) hmob.2 hqb.1
         have TR := Lib.hid TR
         have hmd0 := S1.out.c0
         clear hS hmd
         go_wp2_with fail
         refine HPK.out.mono ?_
         rintro e w' ⟨rfl, rfl⟩
         go_wp2_with (go_at_call 11; refine (HWD.out _ (by first | (with_reducible exact HW1.out) | (with_reducible rfl)) _).mono ?_; rintro e w' ⟨rfl, rfl⟩)
         refine HNT.out.mono ?_
         rintro e w2 ⟨X, rfl, G2, e2, t2⟩
         have L2 := Lib.hid (L1.out.ext e2 (by decide) (by decide) (by decide) (by decide))
         have K2 := Lib.hid (K1.out.ext e2 (by decide))
         have HR := c_TuRun X tuNew 90000 HOK.out (by rw [S1.out.S.it, List.length_map]; omega) (by rw [S1.out.S.it]; exact itOf_ful HKS.out) L2.out.p t2 L2.out.hi hsn.1 (by omega)
         have hrun := TR.out.run
         have hf1 : (⟨b, 8, 3, q, mo⟩ : Cf).q = q := rfl
         have hf2 : (⟨b, 8, 3, q, mo⟩ : Cf).y = mo := rfl
         rw [hf1, hf2, hrun] at HR
         dsimp only at HR
         rw [show ((90000 : Nat) : Int) = 90000 from rfl] at HR
         have HR := Lib.hid HR
         have hny : 0 ≤ y.n ∧ y.n ≤ 2000 + 90000 * ((k : Int) + 1) := by
          have h1 := runN_n (over := tuOver) (step := tuStep q mo) (fun z => One.tu q mo z) 90000 (s, tuNew)
          have h2 := runN_le (over := tuOver) (step := tuStep q mo) 90000 (s, tuNew)
          rw [hrun] at h1 h2
          dsimp only at h1 h2
          omega
         clear L1 K1 HPK HOK HNT e2 t2 hrun hf1 hf2 p0
         go_wp2_with fail
         refine HR.out.mono ?_
         rintro e w3 ⟨rfl, G3, e3, P3, t3⟩
         have L3 := Lib.hid (L2.out.to e3 P3)
         have K3 := Lib.hid (K2.out.ext e3 (sx0 (by decide)))
         have T3 := Lib.hid t3
         clear e3 P3 t3 L2 K2 HR
         obtain ⟨zn, hzn⟩ : ∃ x, x = zz.n := ⟨_, rfl⟩
         have hznm : zn = min q (zs - md) := by rw [hzn, HZE.out]; exact TR.out.n
         have hznb : 0 ≤ zn ∧ zn ≤ 8 := by omega
         have HZN : Hid ((q ≤ zs - md ∧ zn = q) ∨ (zs - md < q ∧ zn = zs - md)) := Lib.hid (by omega)
         have hzq : (zn != if zs - md < q then zs - md else q) = false := by
          have : zn = if zs - md < q then zs - md else q := by split <;> omega
          rw [← this]; simp
         have hmz2 : md + zn ≤ zs := by omega
         clear hznm
         have HOV := c_TuOver T3.out
         rw [TR.out.ov] at HOV
         have HMV0 := c_TMoved T3.out
         rw [← hzn] at HMV0
         have HMV := Lib.hid HMV0
         have HOV := Lib.hid HOV
         clear HMV0 hzn
         go_wp2_with fail
         refine HOV.out.mono ?_
         rintro e w' ⟨rfl, rfl⟩
         go_wp2_with fail
         refine HMV.out.mono ?_
         rintro e w' ⟨rfl, rfl⟩
         go_wp2_with fail
         all_goals
          refine HMV.out.mono ?_
          rintro e w' ⟨rfl, rfl⟩
          have HTS : Hid ((∃ T lost, md + zn = (k + 1 : Nat) * q ∧ TuS t b F.ks N C y T lost (md + zn)) ∨ (∃ T, md + zn = zs ∧ TuE t b F.ks N C y T)) := Lib.hid (by
           have hr := TR.out.res
           rw [← HZE.out] at hr
           rcases HZN.out with ⟨g1, g2⟩ | ⟨g1, g2⟩
           · rcases hr with ⟨-, T, lost, h⟩ | ⟨h, -⟩
             · refine .inl ⟨T, lost, ?_, by rw [g2]; exact h⟩
               rw [HMD.out, g2, Int.natCast_add, Int.add_mul]
               show _ = (k : Int) * q + 1 * q
               rw [Int.one_mul]
             · omega
           · rcases hr with ⟨h, -⟩ | ⟨-, T, h⟩
             · omega
             · exact .inr ⟨T, by omega, h⟩)
          have hcur : y.M 3 = md + zn := by
           rcases HTS.out with ⟨T, lost, -, h⟩ | ⟨T, g, h⟩
           · exact h.cu
           · rw [h.cu, g, HZE.out]
          have hemt : ∀ k : Nat, (k : Int) < fnvSize b → (k : Int) < md + zn → y.M (plTags b k) = 0 := fun k k1 k2 => by
           rcases HTS.out with ⟨T, lost, -, h⟩ | ⟨T, g, h⟩
           · exact h.S.rep.tags0 hbi.1 (by omega) (by omega) k1 fun sl s0 s1 => h.em _ ⟨hbi.1, by dsimp only; omega, by dsimp only; omega, k1, s0, s1⟩ rfl k2
           · exact h.rep.tags0 hbi.1 (by omega) (by omega) k1 fun sl s0 s1 => h.em _ ⟨hbi.1, by dsimp only; omega, by dsimp only; omega, k1, s0, s1⟩ rfl
          have HPK := L3.out.peek 3 (by decide) (by decide) w3 (Below.refl _ _)
          rw [hcur] at HPK
          have HPK := Lib.hid HPK
          have HAH := Lib.hid (c_ahead L3.out hbi.1 (by omega) hcur (by omega) (by omega) hemt)
          have p0 := L3.out.p.wo.c0
          have hkz : (k : Int) ≤ zs := Int.le_trans (by have := Int.mul_le_mul_of_nonneg_left hqb.1 (show (0 : Int) ≤ k by omega); rw [Int.mul_one] at this; exact this) (HMD.out ▸ hmz)
          clear hcur hemt HMV HOV TR S1
          go_wp2_with fail
          refine HPK.out.mono ?_
          rintro e w' ⟨rfl, rfl⟩
          go_wp2_with fail
          refine HAH.out.mono ?_
          rintro e w4 ⟨rfl, hb4⟩
          have L4 := Lib.hid (L3.out.below hb4)
          have K4 := Lib.hid (K3.out.below hb4)
          clear L3 K3 T3 HPK HAH hb4 p0
          go_wp2_with fail
          go_roundw
          case rel =>
           refine ⟨k + 1, G3, y, md + zn, by go_num, by go_num, L4.out, K4.out, ⟨hny.1, by push_cast; omega⟩, by push_cast; omega, ?_⟩
           rcases HTS.out with ⟨T, lost, g, h⟩ | ⟨T, g, h⟩
           · exact .inl ⟨T, lost, g, hmz2, h⟩
           · refine .inr ⟨T, g, by omega, ?_, h⟩
             have hk0 : ((k + 1 : Nat) : Int) - 1 = k := by push_cast; omega
             rw [hk0, ← HMD.out]
             exact hmz
          case measure => simp [intOf]; omega
       · have HPK := L1.out.peek 2 (by decide) (by decide) wr (Below.refl _ _)
         rw [hE.wd, ← hvb] at HPK
         have HPK := Lib.hid HPK
         have E1 := Lib.hid hE
         clear hE
         go_wp2_with fail
         refine HPK.out.mono ?_
         rintro e w' ⟨rfl, rfl⟩
         go_wp2_with (go_at_call 11; refine (HWD.out _ (by first | (with_reducible exact HW1.out) | (with_reducible rfl)) _).mono ?_; rintro e w' ⟨rfl, rfl⟩)
         obtain ⟨Nn, hNn⟩ : ∃ Nn : Nat, (Nn : Int) = plSpots (b + 1) := ⟨(plSpots (b + 1)).toNat, by have := plSpots_bd (b + 1); omega⟩
         have hNn5 : Nn ≤ 500 := by have h1 := fnvSize_up hbi.1 hbi.2; have := plSpots_one (b := b + 1) (by omega) (by omega); omega
         have HST0 := c_Stand (A := Nn) L1.out (by omega) (by omega) E1.out.wd hNn hNn5 E1.out.it hks HKS.out (fun n hn => E1.out.stAt KK.out n (by rw [← hNn]; exact Int.ofNat_lt.2 hn))
         obtain ⟨D, hD⟩ : ∃ D : Nat → Int, D = fun r => tC (gIt r) T t N := ⟨_, rfl⟩
         have hstd : ∀ r : Nat, stC (b + 1) s.M Nn r = D r := fun r => by
          rw [stC_tC, hD]
          exact (E1.out.rep.tC_eq (b + 1) Nn).trans (tC_both KK.out hNn (by unfold gIt; rw [if_neg (by dsimp only; omega)]) E1.out.em).symm
         have hDb : ∀ r : Nat, 0 ≤ D r := fun r => by rw [← hstd r]; have := stC_bd (b + 1) s.M Nn r; omega
         rw [ir64_congr (J := D) fun j _ => hstd j] at HST0
         have hbal : ∀ r : Nat, D r + drC 1 s.nt r = C r := fun r => by rw [hD]; exact E1.out.bal r
         have hdrp : ∀ r : Nat, 0 ≤ drC 1 s.nt r := fun r => (drC_bd 1 s.nt r).1
         have hcnt : s.M 6 = sumN D 64 := by rw [hD]; exact E1.out.cnt
         have hsd : ∀ n : Nat, 0 ≤ sumN D n ∧ sumN D n ≤ n := by
          intro n
          induction n with
          | zero => exact ⟨Int.le_refl _, Int.le_refl _⟩
          | succ n ih =>
            have h1 := hDb n
            have h2 := hbal n
            have h3 := hdrp n
            have h4 := HCB.out n
            show 0 ≤ sumN D n + D n ∧ sumN D n + D n ≤ _
            omega
         obtain ⟨R5, hR5⟩ : ∃ R, R = (ir .i64 D 64).toArray := ⟨_, rfl⟩
         rw [← hR5] at HST0
         have HR5 := Lib.hid hR5
         have hr5s : R5.size = 64 := by rw [hR5]; exact ir_size _ _ _
         have hr5a : R5.all (·.oneCell') = true := by rw [hR5]; exact ir_all _ _ _
         obtain ⟨V5, hV5⟩ : ∃ V, V = Value.agg R5 := ⟨_, rfl⟩
         rw [← hV5] at HST0
         have HST := Lib.hid HST0
         have HV5 := Lib.hid hV5
         have HDD := Lib.hid hDb
         have HBAL := Lib.hid hbal
         have HDRP := Lib.hid hdrp
         have HCNT := Lib.hid hcnt
         have HSD := Lib.hid hsd
         clear hR5 hV5 HST0 hD hstd hDb hbal hcnt hsd hdrp hNn hNn5 HPK
         refine HST.out.mono ?_
         rintro e w2 ⟨rfl, hb2⟩
         have L2 := Lib.hid (L1.out.below hb2)
         have K2 := Lib.hid (K1.out.below hb2)
         clear hb2 HST L1 K1
         go_upto_region 31 with (first
          | (refine wpList_store_row rfl 45 _ _ rfl w2.heap.size R5 rfl HV5.out 45 _ (heap_alloc_new _ _) (by rw [hr5s]; kernel_rfl) (by rw [hr5s]; rfl) hr5a ?_))
         generalize hW3 : World.setRow (World.alloc w2 _) _ R5 = w3
         obtain ⟨hi3, hb3⟩ := B6.row (G := G) HR5.out L2.out.hi hW3
         obtain ⟨XN, hXN⟩ : ∃ X, X = w2.heap.size := ⟨_, rfl⟩
         rw [← hXN] at hi3 ⊢
         have L3 := Lib.hid (L2.out.below hb3)
         have K3 := Lib.hid (K2.out.below hb3)
         have I3 := Lib.hid hi3
         clear L2 K2 hb3 hi3 hXN hW3
         have p2 := L3.out.p.wo.c2
         have hlen := E1.out.len
         obtain ⟨vn, hn, -⟩ := L3.out.p.no.ex
         have HOF := Lib.hid (c_Of B.np vn s.nt 5 w3 hn.head hn.lt (Arr.of_own hn.own) (by omega))
         obtain ⟨n1, h1, hsw⟩ := E1.out.swaps
         rw [hsw] at HOF
         clear hn hsw hlen
         go_wp2_with fail
         refine HOF.out.mono ?_
         rintro e w4 ⟨⟨v', rfl, hA⟩, hb4⟩
         obtain ⟨an, rfl⟩ := hA.shape
         obtain ⟨A, o, c, he, -, -, hlt, hx⟩ := hA.arr.open (Nat.zero_lt_one) (by decide)
         cases he
         obtain ⟨-, -, -, -, -, -, -, v7⟩ := (ntAt_row hx 0 Nat.zero_lt_one).all
         have v7 : w4.cell? ⟨A, o + 7, none⟩ = some (.int .i64 (b + 1)) := v7
         have L4 := Lib.hid (L3.out.below hb4)
         have K4 := Lib.hid (K3.out.below hb4)
         have I4 := Lib.hid (I3.out.below hb4)
         have p0 := L4.out.p.wo.c0
         clear hb4 HOF L3 K3 I3 hA hx p2
         have hd0 : 0 ≤ (zs + q - 1) / q := Int.ediv_nonneg (by omega) (by omega)
         have hd1 : (zs + q - 1) / q ≤ 15 := Int.le_trans (Int.ediv_le_self q (show 0 ≤ zs + q - 1 by omega)) (by omega)
         have hd2 : (k : Int) ≤ (zs + q - 1) / q + 1 := by have := Int.le_ediv_of_mul_le (a := (k : Int) - 1) (b := zs + q - 1) (show 0 < q by omega) (by omega); omega
         have HPK := Lib.hid (L4.out.peek 2 (by decide) (by decide) w4 (Below.refl _ _))
         rw [E1.out.wd, ← hvb] at HPK
         go_wp2_with fail
         refine HPK.out.mono ?_
         rintro e w' ⟨rfl, rfl⟩
         go_wp2_with (go_at_call 11; refine (HWD.out _ (by first | (with_reducible exact HW1.out) | (with_reducible rfl)) _).mono ?_; rintro e w' ⟨rfl, rfl⟩)
         clear HPK hd0 hd1 hd2 v7 hlt
         have HDP : Hid (∀ W, Below w4.heap.size w4 W → ∀ n : Nat, Calls Tryz.prog 32 #[.pointer (some ⟨B.np, 0, none⟩), .int .i64 n] W fun e w' => (∃ x, e = .returned (.tuple #[.int .i64 x, .bool (decide (0 < drC 1 s.nt n))])) ∧ Below W.heap.size W w') := Lib.hid fun W hW n => by
          have L5 := L4.out.below hW
          have hlen := E1.out.len
          obtain ⟨vn, hn, -⟩ := L5.p.no.ex
          refine (c_Dropped B.np vn s.nt n W hn.head (Arr.of_own hn.own) (by omega)).mono ?_
          rintro e w' ⟨rfl, hb⟩
          exact ⟨⟨_, by rw [← ntDr_pos n s.nt]⟩, hb⟩
         go_upto_region 36 with fail
         go_loopw [20, 21] (fun lv iv wr => ∃ n : Nat, iv = .int .i64 n ∧ lv = .int .i64 (sumN D n) ∧ n ≤ 64 ∧ Below w4.heap.size w4 wr) (fun _ iv _ => 64 - (intOf iv).toNat)
         case atStart => exact ⟨0, rfl, rfl, Nat.zero_le _, Below.refl _ _⟩
         case round =>
          obtain ⟨n, rfl, rfl, hn, hb⟩ := hrel
          have BR := Lib.hid hb
          clear hb p0
          by_cases hn2 : n < 64
          · have L5 := Lib.hid (L4.out.below BR.out)
            have p2 := L5.out.p.wo.c2
            have HD5 := Lib.hid (HDP.out _ BR.out n)
            have I5 := Lib.hid (I4.out.below BR.out)
            have K5 := Lib.hid (K4.out.below BR.out)
            have h1 := HDD.out n
            have h2 := HBAL.out n
            have h3 := HDRP.out n
            have h4 := HCB.out n
            have hs1 := HSD.out n
            obtain ⟨dn, hdn⟩ : ∃ x, x = D n := ⟨_, rfl⟩
            obtain ⟨xn, hxn⟩ : ∃ x, x = drC 1 s.nt n := ⟨_, rfl⟩
            obtain ⟨cv, hcv⟩ : ∃ x, x = C n := ⟨_, rfl⟩
            obtain ⟨sn, hsn0⟩ : ∃ x, x = sumN D n := ⟨_, rfl⟩
            have HNX : Hid (sumN D (n + 1) = sn + dn) := Lib.hid (by rw [hdn, hsn0]; rfl)
            have HA1 : Hid (∀ W, Below wr.heap.size wr W → W.cell? ⟨XN, n, none⟩ = some (.int .i64 dn)) := Lib.hid fun W hW => by rw [hdn]; exact (I5.out.below hW).cell hn2
            have HA3 : Hid (∀ W, Below wr.heap.size wr W → W.cell? ⟨XW, n, none⟩ = some (.int .i64 cv)) := Lib.hid fun W hW => by rw [hcv]; exact (K5.out.below hW).cell hn2
            rw [← hdn] at h1 h2
            rw [← hxn] at h2 h3 HD5
            rw [← hcv] at h2 h4
            rw [← hsn0] at hs1 ⊢
            have hnb0 : (0 : Int) ≤ (n : Int) := by omega
            have hnb1 : (n : Int) < 64 := by omega
            clear hdn hxn hcv hsn0
            go_wp2_with fail
            refine HD5.out.mono ?_
            rintro e w5 ⟨⟨x, rfl⟩, hb5⟩
            have B5 := Lib.hid hb5
            have a1 := HA1.out _ hb5
            have a3 := HA3.out _ hb5
            have hbn : Hid (∀ q, Below w5.heap.size w5 (w5.drewN q)) := Lib.hid fun q => ⟨rfl, rfl, rfl, Nat.le_refl _, fun _ _ => rfl⟩
            clear hb5 HA1 HA3 HD5 L5 I5 K5 p2
            by_cases hg : 0 < xn
            · have dg : decide (0 < xn) = true := decide_eq_true hg
              have hd0 : dn = 0 := by omega
              subst hd0
              rw [dg]
              go_wp2_with fail
              go_quiet (fail)
              go_wp2_with fail
              go_roundw
              case rel => exact ⟨n + 1, by go_num, by rw [HNX.out, Int.add_zero], by omega, BR.out.trans ((B5.out.trans ((hbn.out nq).mono B5.out.size)).mono BR.out.size)⟩
              case measure => simp [intOf]; omega
            · have dg : decide (0 < xn) = false := decide_eq_false hg
              have hd0 : cv = dn := by omega
              subst hd0
              rw [dg]
              go_wp2_with fail
              go_quiet (fail)
              go_wp2_with fail
              go_roundw
              case rel => exact ⟨n + 1, by go_num, by rw [HNX.out], by omega, BR.out.trans ((B5.out.trans ((hbn.out nq).mono B5.out.size)).mono BR.out.size)⟩
              case measure => simp [intOf]; omega
          · have hn6 : n = 64 := by omega
            subst hn6
            have L5 := Lib.hid (L4.out.below BR.out)
            have hcd := HSD.out 64
            have HPK := L5.out.peek 6 (by decide) (by decide) wr (Below.refl _ _)
            rw [HCNT.out] at HPK
            have HPK := Lib.hid HPK
            have HOD := Lib.hid (c_Odds L5.out E1.out.odd)
            obtain ⟨cd, hcde⟩ : ∃ x, x = sumN D 64 := ⟨_, rfl⟩
            rw [← hcde] at HPK hcd ⊢
            have hwc : IntKind.u64.wrap cd = cd := by simp [IntKind.wrap, IntKind.bits]; omega
            have p0 := L5.out.p.wo.c0
            clear hcde hn hn2
            go_wp2_with fail
            refine HPK.out.mono ?_
            rintro e w' ⟨rfl, rfl⟩
            go_wp2_with fail
            refine HOD.out.mono ?_
            rintro e w6 ⟨rfl, hb6⟩
            go_wp2_with fail
            refine (c_lives21 _).mono ?_
            rintro e w7 ⟨rfl, hb7⟩
            go_wp2_with fail
            go_ret
            exact ⟨rfl, L5.out.bel.trans ((hb6.trans (hb7.mono hb6.size)).mono L5.out.bel.size)⟩
end
end Go.Proofs.YtfnmdafpdcgcmaaGreat
