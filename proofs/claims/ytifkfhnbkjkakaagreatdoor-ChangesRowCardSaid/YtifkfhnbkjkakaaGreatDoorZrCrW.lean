/- Layer 26: ChangesRow. -/
import Derived.Test.YtifkfhnbkjkakaaGreatDoorZrSL
import Derived.Test.YtifkfhnbkjkakaaGreatDoorZrSK
import Derived.Test.YtifkfhnbkjkakaaGreatDoorZrSD1
import Derived.Test.YtifkfhnbkjkakaaGreatDoorZrCgB
import Derived.Test.YtifkfhnbkjkakaaGreatDoorZrCrL
namespace Go.Proofs.YtifkfhnbkjkakaaGreatDoor
set_option linter.unusedSimpArgs false
set_option linter.unusedVariables false
set_option maxHeartbeats 8000000
set_option maxRecDepth 100000
open Go.RowKit
theorem w_ChangesRow (verb : Int) (key val : ByteArray) (fl exp id by_ : Int) (v : Value) (l : List Clm) (delete : Bool) (w : World) (hV : Va w OZ) (a0 : 0 ≤ verb) (a1 : verb ≤ 255) (hkz : key.size ≤ maxLen) (hvz : val.size ≤ maxLen) (f0 : 0 ≤ fl) (f1 : fl ≤ 4294967295) (x0 : -9223372036854775808 ≤ exp) (x1 : exp ≤ 9223372036854775807) (i0 : 0 ≤ id) (i1 : id ≤ 18446744073709551615) (b0 : 0 ≤ by_) (b1 : by_ ≤ 18446744073709551615) (hg : ∀ q ∈ l, ClGood q) (hl : Arr w v l.length 7 (rowOf clCs l)) :
 Calls Tryz.prog 3 #[.agg #[.int .u8 verb, .string key, .string val, .int .u32 fl, .int .i64 exp, .int .u64 id, .int .u64 by_], v, .bool delete] w fun e w' => e = .returned (.bool true) ∧ Below w.heap.size w w' := by
 obtain ⟨c, hc⟩ : ∃ c : Clm, c = ⟨verb, key, val, fl, exp, id, by_⟩ := ⟨_, rfl⟩
 have hcv : clCs c = [.int .u8 verb, .string key, .string val, .int .u32 fl, .int .i64 exp, .int .u64 id, .int .u64 by_] := by rw [hc]; rfl
 have HW := Lib.hid (c_WorldP 3 (w.alloc (.cells (clCs c).toArray 26)) (by decide) (by decide))
 have HOWN := Lib.hid (fun W1 O B (hP : PW W1 O B ⟨3, 8, 3, 1, 16⟩ (aw0 3)) (hE : Env (w.alloc (.cells (clCs c).toArray 26)) O W1) => sa_own hP hE)
 have HLV := Lib.hid (fun W (hb : Below w.heap.size w W) => c_lives26 W (hV.below hb))
 have HVO2 := Lib.hid (fun W (hb : Below w.heap.size w W) => hV.below hb)
 have HVE := Lib.hid (fun (W : World) (G : Om) (e : Env w G W) => hV.env e)
 rw [hcv] at HW HOWN
 have HCV := Lib.hid hcv
 have HC := Lib.hid hc
 have HKZ := Lib.hid (And.intro hkz hvz)
 obtain ⟨hlen, ao, cc, rfl, hn, hm, hx⟩ := hl
 have HX := Lib.hid hx
 have HG := Lib.hid hg
 have hl0 : (0 : Int) ≤ (l.length : Int) := by omega
 have hlm : (l.length : Int) ≤ 9223372036854775807 := by unfold maxLen at hm; omega
 obtain ⟨sm, hw⟩ : ∃ sm, IntKind.i64.wrap ((key.size : Int) + val.size) = sm := ⟨_, rfl⟩
 clear hc hcv hkz hvz a0 a1 f0 f1 x0 x1 i0 i1 b0 b1 hg hx hlen hn hm hV
 go_enter Tryz.func3, Tryz.ntmps3
 go_wp2_with fail
 refine HW.out.mono ?_
 rintro e w1 ⟨B, O1, rfl, p1, E1⟩
 obtain ⟨G1, S1⟩ := HOWN.out _ _ _ p1 E1
 have HS1 := Lib.hid S1
 have ob := S1.x
 rw [HCV.out] at ob
 have k0 := ob.c 0 _ rfl
 have k1 := ob.c 1 _ rfl
 have k2 := ob.c 2 _ rfl
 have k4 := ob.c 4 _ rfl
 have g0 := ob.f 0
 have g4 := ob.f 4
 obtain ⟨cb, hcb⟩ : ∃ n, n = w.heap.size := ⟨_, rfl⟩
 rw [← hcb] at k0 k1 k2 k4 g0 g4 HS1
 have HCB := Lib.hid hcb
 clear p1 E1 S1 HW HOWN ob
 by_cases hs2 : 3000 < sm
 · go_upto_region 2 with fail
   rw [← hcb]
   clear hcb
   go_wp2_with fail
   refine (HLV.out _ HS1.out.e.bel).mono ?_
   rintro e w9 ⟨rfl, hb9⟩
   go_wp2_with fail
   go_ret
   exact ⟨rfl, HS1.out.e.bel.trans (hb9.mono HS1.out.e.bel.size)⟩
 · by_cases hs3 : 30 < (l.length : Int)
   · go_upto_region 2 with fail
     rw [← hcb]
     clear hcb
     go_wp2_with fail
     refine (HLV.out _ HS1.out.e.bel).mono ?_
     rintro e w9 ⟨rfl, hb9⟩
     go_wp2_with fail
     go_ret
     exact ⟨rfl, HS1.out.e.bel.trans (hb9.mono HS1.out.e.bel.size)⟩
   · go_upto_region 2 with fail
     rw [← hcb]
     clear hcb
     go_upto_region 6 with fail
     obtain ⟨c1, hc1⟩ : ∃ c1 : Clm, c1 = ⟨3, key, val, fl, 0, id, by_⟩ := ⟨_, rfl⟩
     have S2 := ((HS1.out.set 0 (.int .u8 3) (by decide) (c' := ⟨3, key, val, fl, exp, id, by_⟩) (by rw [HC.out]; rfl)).1.set 4 (.int .i64 0) (by decide) (c' := c1) (by rw [hc1]; rfl)).1
     have HC1 := Lib.hid hc1
     obtain ⟨w2, hw2⟩ : ∃ W, W = (w1.setCell ⟨cb, 0, none⟩ (.int .u8 3)).setCell ⟨cb, 4, none⟩ (.int .i64 0) := ⟨_, rfl⟩
     rw [← hw2] at S2 ⊢
     have HS2 := Lib.hid S2
     have ob := S2.x
     rw [hc1] at ob
     have k0 := ob.c 0 _ rfl
     have k1 := ob.c 1 _ rfl
     have k2 := ob.c 2 _ rfl
     have k3 := ob.c 3 _ rfl
     have k4 := ob.c 4 _ rfl
     have k5 := ob.c 5 _ rfl
     have k6 := ob.c 6 _ rfl
     clear hw2 S2 ob hc1 HS1 HC HCV g0 g4
     have hk1 : c1.key = key := by rw [HC1.out]
     have hv1 : c1.val = val := by rw [HC1.out]
     have he1 : c1.exp = 0 := by rw [HC1.out]
     have hb1 : c1.verb = 3 := by rw [HC1.out]
     have hmb : mayB c1 = (kyOk key && kyVal val) := by
      unfold mayB
      rw [hk1, hv1, decide_eq_true (by omega), Bool.true_and]
     have hcl1 : clV c1 = .agg #[.int .u8 3, .string key, .string val, .int .u32 fl, .int .i64 0, .int .u64 id, .int .u64 by_] := by rw [HC1.out]; rfl
     have HOK := Lib.hid (fun W => c_kyOk key W HKZ.out.1)
     have HVO := Lib.hid (fun W => c_kyValue val W HKZ.out.2)
     have HKO := Lib.hid (rfl : kyOk key = kyOk key)
     have HMB := Lib.hid hmb
     clear hmb
     obtain ⟨ok, hok⟩ : ∃ b, b = kyOk key := ⟨_, rfl⟩
     obtain ⟨vo, hvo⟩ : ∃ b, b = kyVal val := ⟨_, rfl⟩
     rw [← hok, ← hvo] at HMB
     rw [← hok] at HOK HKO
     rw [← hvo] at HVO
     have HKO2 := Lib.hid hok
     clear hok hvo
     by_cases hm : (ok && vo) = true
     · have HD1 : Hid (∃ (s1 : AW) (p : Spt) (T : Tab), AgS 3 key s1 p T 1 (stIt c1 1 0) 1 ∧ ∀ W G, PW W G B ⟨3, 8, 3, 1, 16⟩ (aw0 3) → Va W G → (∀ j, G j ≠ 0 → j < W.heap.size) → Calls Tryz.prog 10 #[.pointer (some ⟨B.p, 0, none⟩), .int .i64 3, .agg #[.int .u8 3, .string key, .string val, .int .u32 fl, .int .i64 0, .int .u64 id, .int .u64 by_]] W (RP (SX 10 41) W G (ansV 1 1) fun W G => PW W G B ⟨3, 8, 3, 1, 16⟩ s1)) := Lib.hid (by
        obtain ⟨m, s1, z1, p, T, r1, o1, an1, nu1, A1, -⟩ := ag_new (b := 3) (by decide) (by decide) 3 c1 (by rw [hb1]; decide)
        rw [hk1] at A1
        refine ⟨s1, p, T, A1, fun W G hP hv hh => ?_⟩
        have h := c_DoesS (f := ⟨3, 8, 3, 1, 16⟩) (aw0_sti hP.bd (by decide) (by decide) c1 (g := 8) (by decide)) r1 o1 hP hv (by decide) (HMB.out.trans hm) (by rw [he1]; decide) (by rw [hk1]; exact HKZ.out.1) (by rw [hv1]; exact HKZ.out.2) (by show (1 : Int) ≤ 8; decide) (by show (8 : Int) ≤ 65536; decide) hh (Int.le_refl _) (by show (0 : Int) + 200000 ≤ _; decide)
        rw [an1, nu1, hcl1] at h
        exact h)
       obtain ⟨s1, p, T, A1, hD1⟩ := HD1.out
       obtain ⟨hok, hvo⟩ := Bool.and_eq_true_iff.1 hm
       subst hok
       subst hvo
       have HA1 := Lib.hid A1
       have HDD1 := Lib.hid (hD1 w2 G1 HS2.out.p (HVE.out w2 G1 HS2.out.e) HS2.out.e.hi)
       clear HD1 A1 hD1 hm
       go_upto_region 6 with fail
       go_wp2_with fail
       refine (HOK.out _).mono ?_
       rintro e w' ⟨rfl, rfl⟩
       go_wp2_with fail
       refine (HVO.out _).mono ?_
       rintro e w' ⟨rfl, rfl⟩
       go_wp2_with fail
       refine HDD1.out.mono ?_
       rintro e w3 ⟨rfl, G3, e3, p3⟩
       have S3 := HS2.out.to e3 p3 (by unfold SX; omega)
       have HS3 := Lib.hid S3
       have ob := S3.x
       rw [HC1.out] at ob
       have k1 := ob.c 1 _ rfl
       clear k0 k2 k3 k4 k5 k6 e3 p3 S3 ob HDD1 HS2 HOK HVO
       obtain ⟨K0, hK0⟩ : ∃ K : KeS 3 key s1 p T 1 (stIt c1 1 0) 1 1, True := ⟨ke_of_ag HA1.out, trivial⟩
       have hat : atL key s1 = [(1 : Int)] := atL_o K0.sw K0.std
       have hla : itAt s1.it 1 = stIt c1 1 0 := K0.last
       have hlen1 : s1.it.length = 1 := K0.len
       have hstI : stIt c1 1 0 = ⟨key, val, fl, 1, -1, 0⟩ := by
        unfold stIt
        rw [hk1, hv1, he1, HC1.out]
        rfl
       have HRC := Lib.hid (c_rec26 (f := ⟨3, 8, 3, 1, 16⟩) hat HS3.out.p HKZ.out.1 (by rw [hlen1]; decide) (by decide) HS3.out.e.hi)
       rw [hla, hstI] at HRC
       have his : itIs s1.it 1 = true := by
        unfold itIs
        rw [hlen1]
        decide
       rw [his] at HRC
       rw [hstI] at K0
       have HK0 := Lib.hid K0
       unfold itV at HRC
       dsimp only at HRC
       clear K0 hK0 hat hla hlen1 hstI his HA1
       go_wp2_with fail
       refine HRC.out.mono ?_
       rintro e w4 ⟨rfl, G4, e4, p4⟩
       have S4 := HS3.out.to e4 p4 (by unfold SX; omega)
       obtain ⟨G5, e5, R5, -⟩ := alloc_ob S4.e.hi 43 (itCs ⟨key, val, fl, 1, -1, 0⟩).toArray 34 w4.heap.size rfl
       have S5 := S4.to e5 (S4.p.ext e5 (by decide) (by decide) (by decide) (by decide)) (by decide)
       obtain ⟨w5, hw5⟩ : ∃ W, W = w4.alloc (.cells (itCs ⟨key, val, fl, 1, -1, 0⟩).toArray 34) := ⟨_, rfl⟩
       rw [← hw5] at S5 R5
       obtain ⟨R, hR⟩ : ∃ n, n = w4.heap.size := ⟨_, rfl⟩
       rw [← hR] at R5
       unfold itCs at hw5
       dsimp only at hw5
       have HS5 := Lib.hid (And.intro S5 R5)
       have q3 := R5.c 3 _ rfl
       clear S4 e4 p4 e5 R5 S5 HRC HS3 k1
       go_upto_region 10 with fail
       rw [← hw5, ← hR]
       clear hw5 hR
       go_wp2_with fail
       go_loopw [10, 11] (fun a b wr => ∃ (k i n q : Nat) (G : Om) (s : AW) (p : Spt) (T : Tab) (x : It), k ≤ l.length ∧ a = .int .u64 i ∧ b = .int .i64 k ∧ SaW w wr G B s cb c1 ∧ Ob wr G 43 R (itCs x) ∧ KeS 3 key s p T n x i q ∧ n ≤ k + 1 ∧ i ≤ k + 1 ∧ q ≤ 2 * k + 1 ∧ x.id ≠ 0 ∧ (∀ y ∈ s.it, y.val.size ≤ maxLen)) (fun _ b _ => l.length - (intOf b).toNat)
       case atStart =>
        refine ⟨0, 1, 1, 1, G5, s1, p, T, ⟨key, val, fl, 1, -1, 0⟩, Nat.zero_le _, rfl, rfl, HS5.out.1, HS5.out.2, HK0.out, by omega, by omega, by omega, by show (1 : Int) ≠ 0; decide, ?_⟩
        have hi := it_one HK0.out.len HK0.out.last
        rw [hi]
        intro y hy
        rw [List.mem_singleton] at hy
        rw [hy]
        exact HKZ.out.2
       case round =>
        obtain ⟨k, i, n, q, G, s, p2, T2, x, hk, rfl, rfl, S, R0, K, hn, hi, hq, hid, hvl⟩ := hrel
        have HS := Lib.hid (And.intro S R0)
        have HK := Lib.hid (And.intro K (And.intro hn (And.intro hi (And.intro hq (And.intro hid hvl)))))
        have ob := S.x
        rw [HC1.out] at ob
        have k1 := ob.c 1 _ rfl
        have y0 := S.p.wo.c0
        clear S R0 K hn hi hq hid hvl ob
        by_cases hlt : k < l.length
        · have hki : (k : Int) < (l.length : Int) := by omega
          have hk0 : (0 : Int) ≤ (k : Int) := by omega
          obtain ⟨cq, hcq⟩ : ∃ c, c = l[k] := ⟨_, rfl⟩
          have HGQ := Lib.hid (HG.out cq (hcq ▸ List.getElem_mem hlt))
          have hcell : ∀ j u, (clCs cq)[j]? = some u → (rowOf clCs l)[k * 7 + j]? = some u := fun j u hu => by
           have hj : j < 7 := (List.getElem?_eq_some_iff.1 hu).1
           rw [rowOf_get (k := 7) (fun _ => rfl) l k j hlt hj, ← hcq]
           exact hu
          obtain ⟨lb, lo, hao, hlb, lc0⟩ := HX.out (k * 7 + 0) _ (hcell 0 _ rfl)
          subst hao
          obtain ⟨lb', lo', e4, -, lc4⟩ := HX.out (k * 7 + 4) _ (hcell 4 _ rfl)
          cases e4
          obtain ⟨lb', lo', e6, -, lc6⟩ := HX.out (k * 7 + 6) _ (hcell 6 _ rfl)
          cases e6
          have lc0 := (HS.out.1.e.bel.cell (p := ⟨lb, lo + k * 7, none⟩) hlb).trans lc0
          have lc4 : wr.cell? ⟨lb, lo + k * 7 + 4, none⟩ = some (.int .i64 cq.exp) := by rw [Nat.add_assoc]; exact (HS.out.1.e.bel.cell (p := ⟨lb, lo + (k * 7 + 4), none⟩) hlb).trans lc4
          have lc6 : wr.cell? ⟨lb, lo + k * 7 + 6, none⟩ = some (.int .u64 cq.by_) := by rw [Nat.add_assoc]; exact (HS.out.1.e.bel.cell (p := ⟨lb, lo + (k * 7 + 6), none⟩) hlb).trans lc6
          clear hcell hcq
          obtain ⟨cv, hcv⟩ : ∃ cv, IntKind.u8.wrap (8 + cq.verb.tmod 3) = cv := ⟨_, rfl⟩
          have HCVV : Hid (cv = 8 ∨ cv = 9 ∨ cv = 10) := Lib.hid (by
           have h := HGQ.out.1
           rw [Int.tmod_eq_emod_of_nonneg h.1, IntKind.wrap_u8] at hcv
           omega)
          go_upto_region 16 with fail
          go_cut [12] (fun v wx => v = .pointer (some ⟨wr.heap.size, 0, none⟩) ∧ wx = (wr.alloc (.cells #[.int .u8 cv, .string key, .string ⟨#[]⟩, .int .u32 0, .int .i64 cq.exp, .int .u64 0, .int .u64 cq.by_] 26)).drew)
          case first =>
           go_region_held3 (fun w' => w'.cell? ⟨cb, 1, none⟩ = some (.string key) ∧ w'.cell? ⟨lb, lo + k * 7, none⟩ = some (.int .u8 cq.verb) ∧ w'.cell? ⟨lb, lo + k * 7 + 4, none⟩ = some (.int .i64 cq.exp) ∧ w'.cell? ⟨lb, lo + k * 7 + 6, none⟩ = some (.int .u64 cq.by_)) (go_keep)
            (fail)
           all_goals
            go_wp2_with fail
            go_meet
            exact ⟨rfl, rfl⟩
          obtain ⟨rfl, rfl⟩ := hcut
          obtain ⟨cx, hcx⟩ : ∃ cx : Clm, cx = ⟨cv, key, ⟨#[]⟩, 0, cq.exp, 0, cq.by_⟩ := ⟨_, rfl⟩
          have HCX := Lib.hid hcx
          have bx := (alloc_below wr (.cells #[.int .u8 cv, .string key, .string ⟨#[]⟩, .int .u32 0, .int .i64 cq.exp, .int .u64 0, .int .u64 cq.by_] 26)).drew
          have A0 := ((⟨HS.out.1, HS.out.2, fun q hq => by cases hq⟩ : RwS w wr G B s cb c1 R x []).lay [.int .u8 cv, .string key, .string ⟨#[]⟩, .int .u32 0, .int .i64 cq.exp, .int .u64 0, .int .u64 cq.by_] 26).below (drew_below _)
          obtain ⟨bX, hbX⟩ : ∃ n, n = wr.heap.size := ⟨_, rfl⟩
          obtain ⟨wa, hwa⟩ : ∃ W, W = (wr.alloc (.cells #[.int .u8 cv, .string key, .string ⟨#[]⟩, .int .u32 0, .int .i64 cq.exp, .int .u64 0, .int .u64 cq.by_] 26)).drew := ⟨_, rfl⟩
          have HA : Hid (RwS w wa G B s cb c1 R x [(bX, [.int .u8 cv, .string key, .string ⟨#[]⟩, .int .u32 0, .int .i64 cq.exp, .int .u64 0, .int .u64 cq.by_])]) := Lib.hid (by rw [hwa, hbX]; exact A0)
          rw [← hwa, ← hbX]
          clear A0 bx hwa hbX hcx lc0 lc4 lc6 k1 y0 hcv HS
          have y0 := HA.out.s.p.wo.c0
          have PK := Lib.hid (c_Peek 8 HA.out.s.p.ce (by decide) (by decide))
          obtain ⟨ep, hep⟩ : ∃ e, e = s.M 8 := ⟨_, rfl⟩
          rw [← hep] at PK
          have HEP := Lib.hid hep
          have hbd := HA.out.s.p.bd 8
          have hn1 : 1 ≤ n := by
           have h := HK.out.1.std.hit
           have := fdHit_pos h
           omega
          have hxvl : x.val.size ≤ maxLen := HK.out.2.2.2.2.2 x (itAt_in HK.out.1.len hn1 HK.out.1.last)
          have hcl : clV cx = .agg #[.int .u8 cv, .string key, .string ⟨#[]⟩, .int .u32 0, .int .i64 cq.exp, .int .u64 0, .int .u64 cq.by_] := by rw [HCX.out]; rfl
          have HGV := Lib.hid (fun W (hb : Below w.heap.size w W) => c_gives cx x ep ((i : Int) + 1) W HK.out.2.2.2.2.1 (by omega) (by omega) (by rw [HCX.out]; exact HCVV.out) (by rw [HCX.out]; exact HGQ.out.2.2.2.2.1.1) (by rw [HCX.out]; exact HGQ.out.2.2.2.2.1.2) (by rw [HCX.out]; exact HGQ.out.2.2.2.2.2.2.1) (by rw [HCX.out]; have := HGQ.out.2.2.2.2.2.2.2; show cq.by_ < _; omega) hxvl (HVO2.out W hb))
          have HKD := Lib.hid (fun (W : World) (G : Om) (hp : PW W G B ⟨3, 8, 3, 1, 16⟩ s) (e : Env w G W) => c_KeDoes HK.out.1 hp (HVE.out W G e) e.hi 5 (by decide) cx (by rw [HCX.out]) (by rw [HCX.out]; exact HCVV.out) HKO2.out.symm HKZ.out.1 (by rw [HCX.out]; exact HGQ.out.2.2.2.2.1) (by rw [HCX.out]; have := HGQ.out.2.2.2.2.2.2; show 0 ≤ cq.by_ ∧ cq.by_ < _; omega) (by have := HK.out.2.2.1; omega) (by have := HK.out.2.1; omega) (by have := HK.out.2.2.2.1; omega) HK.out.2.2.2.2.2)
          rw [hcl] at HGV HKD
          rw [← hep] at HKD
          have HGI : Hid ((chGiv cx x ep ((i : Int) + 1)).it.id ≠ 0) := Lib.hid (chGiv_id (by have := HCVV.out; rw [HCX.out]; show cv ≠ 7; omega) HK.out.2.2.2.2.1 (by omega))
          have HGD : Hid ((chGiv cx x ep ((i : Int) + 1)).dr ≤ 1) := Lib.hid chGiv_dr
          obtain ⟨g, hgg⟩ : ∃ g, g = chGiv cx x ep ((i : Int) + 1) := ⟨_, rfl⟩
          rw [← hgg] at HGV HKD HGI HGD
          clear hgg hcl hxvl hn1 hbd hep HEP
          obtain ⟨an, nu, y, dr⟩ := g
          dsimp only at HGV HKD HGI HGD
          have HW1 : Hid (IntKind.u64.wrap ((i : Int) + 1) = (i : Int) + 1) := Lib.hid (by rw [IntKind.wrap_u64]; have := HK.out.2.2.1; omega)
          have HW2 : Hid (IntKind.u64.wrap ((i : Int) + (dr : Int)) = ((i + dr : Nat) : Int)) := Lib.hid (by rw [IntKind.wrap_u64]; have := HK.out.2.2.1; have := HGD.out; omega)
          unfold itV at HGV
          unfold ansV at HGV HKD
          have hx0 := (HA.out.l _ (.head _)).c 0 _ rfl
          have hx1 := (HA.out.l _ (.head _)).c 1 _ rfl
          have hx2 := (HA.out.l _ (.head _)).c 2 _ rfl
          have hx3 := (HA.out.l _ (.head _)).c 3 _ rfl
          have hx4 := (HA.out.l _ (.head _)).c 4 _ rfl
          have hx5 := (HA.out.l _ (.head _)).c 5 _ rfl
          have hx6 := (HA.out.l _ (.head _)).c 6 _ rfl
          have r0 := HA.out.r.c 0 _ rfl
          have r1 := HA.out.r.c 1 _ rfl
          have r2 := HA.out.r.c 2 _ rfl
          have r3 := HA.out.r.c 3 _ rfl
          have r4 := HA.out.r.c 4 _ rfl
          have r5 := HA.out.r.c 5 _ rfl
          have hw1 := HW1.out
          go_wp2_with fail
          refine PK.out.mono ?_
          rintro e w' ⟨rfl, rfl⟩
          go_wp2_with fail
          refine (HGV.out _ HA.out.s.e.bel).mono ?_
          rintro e wb ⟨rfl, hbb⟩
          have B1 := ((HA.out.below hbb).lay [.int .u8 an, .int .u64 nu, .string ⟨#[]⟩, .string ⟨#[]⟩, .int .u32 0, .int .u64 0, .int .i64 0, .int .i64 0] 36).lay [.string y.key, .string y.val, .int .u32 y.fl, .int .u64 y.id, .int .i64 y.dies, .int .i64 y.gen] 34
          obtain ⟨bI, hbI⟩ : ∃ n, n = wb.heap.size + 1 := ⟨_, rfl⟩
          obtain ⟨bA, hbA⟩ : ∃ n, n = wb.heap.size := ⟨_, rfl⟩
          obtain ⟨Vb, hVb⟩ : ∃ W, W = (wb.alloc (.cells #[.int .u8 an, .int .u64 nu, .string ⟨#[]⟩, .string ⟨#[]⟩, .int .u32 0, .int .u64 0, .int .i64 0, .int .i64 0] 36)).alloc (.cells #[.string y.key, .string y.val, .int .u32 y.fl, .int .u64 y.id, .int .i64 y.dies, .int .i64 y.gen] 34) := ⟨_, rfl⟩
          have HB : Hid (RwS w Vb G B s cb c1 R x [(bI, [.string y.key, .string y.val, .int .u32 y.fl, .int .u64 y.id, .int .i64 y.dies, .int .i64 y.gen]), (bA, [.int .u8 an, .int .u64 nu, .string ⟨#[]⟩, .string ⟨#[]⟩, .int .u32 0, .int .u64 0, .int .i64 0, .int .i64 0]), (bX, [.int .u8 cv, .string key, .string ⟨#[]⟩, .int .u32 0, .int .i64 cq.exp, .int .u64 0, .int .u64 cq.by_])]) := Lib.hid (by rw [hVb, hbI, hbA]; simpa using B1)
          clear B1 hbb HGV PK HA hx0 hx1 hx2 hx3 hx4 hx5 hx6 r0 r1 r2 r3 r4 r5 y0 hw1
          have hw2 := HW2.out
          go_upto_region 20 with fail
          rw [← hVb, ← hbI, ← hbA]
          clear hVb hbI hbA hw2
          obtain ⟨s2, T3, n2, K2, hn1, hn2, hm8, hvl2, hD⟩ := HKD.out Vb G HB.out.s.p HB.out.s.e
          have HD := Lib.hid hD
          have HK2 := Lib.hid (And.intro K2 (And.intro hn1 (And.intro hn2 hvl2)))
          clear hD K2 hn1 hn2 hm8 hvl2 HKD
          have hx0 := (HB.out.l _ (.tail _ (.tail _ (.head _)))).c 0 _ rfl
          have hx1 := (HB.out.l _ (.tail _ (.tail _ (.head _)))).c 1 _ rfl
          have hx2 := (HB.out.l _ (.tail _ (.tail _ (.head _)))).c 2 _ rfl
          have hx3 := (HB.out.l _ (.tail _ (.tail _ (.head _)))).c 3 _ rfl
          have hx4 := (HB.out.l _ (.tail _ (.tail _ (.head _)))).c 4 _ rfl
          have hx5 := (HB.out.l _ (.tail _ (.tail _ (.head _)))).c 5 _ rfl
          have hx6 := (HB.out.l _ (.tail _ (.tail _ (.head _)))).c 6 _ rfl
          go_wp2_with fail
          refine HD.out.mono ?_
          rintro e wd ⟨rfl, Gd, ed, pd⟩
          have C1 := ((HB.out.to ed pd (by unfold SX; omega) (by unfold SX; omega)).lay [.int .u8 an, .int .u64 nu, .string ⟨#[]⟩, .string ⟨#[]⟩, .int .u32 0, .int .u64 0, .int .i64 0, .int .i64 0] 36)
          obtain ⟨bD, hbD⟩ : ∃ n, n = wd.heap.size := ⟨_, rfl⟩
          obtain ⟨Vd, hVd⟩ : ∃ W, W = wd.alloc (.cells #[.int .u8 an, .int .u64 nu, .string ⟨#[]⟩, .string ⟨#[]⟩, .int .u32 0, .int .u64 0, .int .i64 0, .int .i64 0] 36) := ⟨_, rfl⟩
          have HCd : Hid (RwS w Vd Gd B s2 cb c1 R x [(bD, [.int .u8 an, .int .u64 nu, .string ⟨#[]⟩, .string ⟨#[]⟩, .int .u32 0, .int .u64 0, .int .i64 0, .int .i64 0]), (bI, [.string y.key, .string y.val, .int .u32 y.fl, .int .u64 y.id, .int .i64 y.dies, .int .i64 y.gen]), (bA, [.int .u8 an, .int .u64 nu, .string ⟨#[]⟩, .string ⟨#[]⟩, .int .u32 0, .int .u64 0, .int .i64 0, .int .i64 0]), (bX, [.int .u8 cv, .string key, .string ⟨#[]⟩, .int .u32 0, .int .i64 cq.exp, .int .u64 0, .int .u64 cq.by_])]) := Lib.hid (by rw [hVd, hbD]; exact C1)
          clear C1 ed pd HB HD hx0 hx1 hx2 hx3 hx4 hx5 hx6
          have hat : atL key s2 = [(n2 : Int)] := atL_o HK2.out.1.sw HK2.out.1.std
          have HRC := Lib.hid (c_rec26 (f := ⟨3, 8, 3, 1, 16⟩) hat HCd.out.s.p HKZ.out.1 (by rw [HK2.out.1.len]; have := HK2.out.2.2.1; have := HK.out.2.1; omega) (by have := HK2.out.2.2.1; have := HK.out.2.1; omega) HCd.out.s.e.hi)
          have his : itIs s2.it n2 = true := by
           have h1 := fdHit_pos HK2.out.1.std.hit
           unfold itIs
           rw [HK2.out.1.len]
           exact decide_eq_true ⟨by omega, Int.le_refl _⟩
          rw [his, HK2.out.1.last] at HRC
          unfold itV at HRC
          have ob := HCd.out.s.x
          rw [HC1.out] at ob
          have k1 := ob.c 1 _ rfl
          clear ob his hat
          go_upto_region 21 with fail
          rw [← hVd, ← hbD]
          clear hVd hbD
          go_wp2_with fail
          refine HRC.out.mono ?_
          rintro e we ⟨rfl, Ge, ee, pe⟩
          have D1 := ((HCd.out.to ee pe (by unfold SX; omega) (by unfold SX; omega)).lay [.string y.key, .string y.val, .int .u32 y.fl, .int .u64 y.id, .int .i64 y.dies, .int .i64 y.gen] 34)
          obtain ⟨bN, hbN⟩ : ∃ n, n = we.heap.size := ⟨_, rfl⟩
          obtain ⟨Ve, hVe⟩ : ∃ W, W = we.alloc (.cells #[.string y.key, .string y.val, .int .u32 y.fl, .int .u64 y.id, .int .i64 y.dies, .int .i64 y.gen] 34) := ⟨_, rfl⟩
          have HE : Hid (RwS w Ve Ge B s2 cb c1 R x [(bN, [.string y.key, .string y.val, .int .u32 y.fl, .int .u64 y.id, .int .i64 y.dies, .int .i64 y.gen]), (bD, [.int .u8 an, .int .u64 nu, .string ⟨#[]⟩, .string ⟨#[]⟩, .int .u32 0, .int .u64 0, .int .i64 0, .int .i64 0]), (bI, [.string y.key, .string y.val, .int .u32 y.fl, .int .u64 y.id, .int .i64 y.dies, .int .i64 y.gen]), (bA, [.int .u8 an, .int .u64 nu, .string ⟨#[]⟩, .string ⟨#[]⟩, .int .u32 0, .int .u64 0, .int .i64 0, .int .i64 0]), (bX, [.int .u8 cv, .string key, .string ⟨#[]⟩, .int .u32 0, .int .i64 cq.exp, .int .u64 0, .int .u64 cq.by_])]) := Lib.hid (by rw [hVe, hbN]; exact D1)
          clear D1 ee pe HCd HRC k1
          have PK7 := Lib.hid (c_Peek 7 HE.out.s.p.ce (by decide) (by decide))
          rw [HK2.out.1.ids] at PK7
          have n0 := (HE.out.l _ (.head _)).c 0 _ rfl
          have n1 := (HE.out.l _ (.head _)).c 1 _ rfl
          have n2 := (HE.out.l _ (.head _)).c 2 _ rfl
          have n3 := (HE.out.l _ (.head _)).c 3 _ rfl
          have n4 := (HE.out.l _ (.head _)).c 4 _ rfl
          have n5 := (HE.out.l _ (.head _)).c 5 _ rfl
          have d0 := (HE.out.l _ (.tail _ (.head _))).c 0 _ rfl
          have d1 := (HE.out.l _ (.tail _ (.head _))).c 1 _ rfl
          have d2 := (HE.out.l _ (.tail _ (.head _))).c 2 _ rfl
          have d3 := (HE.out.l _ (.tail _ (.head _))).c 3 _ rfl
          have d4 := (HE.out.l _ (.tail _ (.head _))).c 4 _ rfl
          have d5 := (HE.out.l _ (.tail _ (.head _))).c 5 _ rfl
          have d6 := (HE.out.l _ (.tail _ (.head _))).c 6 _ rfl
          have d7 := (HE.out.l _ (.tail _ (.head _))).c 7 _ rfl
          have y0 := (HE.out.l _ (.tail _ (.tail _ (.head _)))).c 0 _ rfl
          have y1 := (HE.out.l _ (.tail _ (.tail _ (.head _)))).c 1 _ rfl
          have y2 := (HE.out.l _ (.tail _ (.tail _ (.head _)))).c 2 _ rfl
          have y3 := (HE.out.l _ (.tail _ (.tail _ (.head _)))).c 3 _ rfl
          have y4 := (HE.out.l _ (.tail _ (.tail _ (.head _)))).c 4 _ rfl
          have y5 := (HE.out.l _ (.tail _ (.tail _ (.head _)))).c 5 _ rfl
          have z0 := (HE.out.l _ (.tail _ (.tail _ (.tail _ (.head _))))).c 0 _ rfl
          have z1 := (HE.out.l _ (.tail _ (.tail _ (.tail _ (.head _))))).c 1 _ rfl
          have z2 := (HE.out.l _ (.tail _ (.tail _ (.tail _ (.head _))))).c 2 _ rfl
          have z3 := (HE.out.l _ (.tail _ (.tail _ (.tail _ (.head _))))).c 3 _ rfl
          have z4 := (HE.out.l _ (.tail _ (.tail _ (.tail _ (.head _))))).c 4 _ rfl
          have z5 := (HE.out.l _ (.tail _ (.tail _ (.tail _ (.head _))))).c 5 _ rfl
          have z6 := (HE.out.l _ (.tail _ (.tail _ (.tail _ (.head _))))).c 6 _ rfl
          have z7 := (HE.out.l _ (.tail _ (.tail _ (.tail _ (.head _))))).c 7 _ rfl
          have w0 := HE.out.s.p.wo.c0
          have r0 := HE.out.r.c 0 _ rfl
          have fr0 := HE.out.r.f 0
          have r1 := HE.out.r.c 1 _ rfl
          have fr1 := HE.out.r.f 1
          have r2 := HE.out.r.c 2 _ rfl
          have fr2 := HE.out.r.f 2
          have r3 := HE.out.r.c 3 _ rfl
          have fr3 := HE.out.r.f 3
          have r4 := HE.out.r.c 4 _ rfl
          have fr4 := HE.out.r.f 4
          have r5 := HE.out.r.c 5 _ rfl
          have fr5 := HE.out.r.f 5
          go_upto_region 22 with fail
          rw [← hVe, ← hbN]
          clear hVe hbN
          go_wp2_with fail
          refine PK7.out.mono ?_
          rintro e w' ⟨rfl, rfl⟩
          have F1 := HE.out.over y
          obtain ⟨Vf, hVf⟩ : ∃ W, W = ((((((Ve.setCell ⟨R, 0, none⟩ (.string y.key)).setCell ⟨R, 1, none⟩ (.string y.val)).setCell ⟨R, 2, none⟩ (.int .u32 y.fl)).setCell ⟨R, 3, none⟩ (.int .u64 y.id)).setCell ⟨R, 4, none⟩ (.int .i64 y.dies)).setCell ⟨R, 5, none⟩ (.int .i64 y.gen)) := ⟨_, rfl⟩
          rw [← hVf] at F1
          have HF := Lib.hid F1
          clear F1
          go_upto_region 25 with fail
          rw [← hVf]
          clear hVf n0 n1 n2 n3 n4 n5 d0 d1 d2 d3 d4 d5 d6 d7 y0 y1 y2 y3 y4 y5 z0 z1 z2 z3 z4 z5 z6 z7 r0 fr0 r1 fr1 r2 fr2 r3 fr3 r4 fr4 r5 fr5 w0 PK7 HE
          have h0 := HK2.out.1.n0
          have h1 := HK2.out.1.n1
          have hq := HK.out.2.2.2.1
          have HTK := Lib.hid (c_WTick Vf Ge B ⟨3, 8, 3, 1, 16⟩ s2 HF.out.s.p HF.out.s.e.hi h0 (by omega))
          clear h0 h1 hq
          by_cases h5 : (k : Int) % 5 = 4
          · have d5 : ((k : Int) % 5 == 4) = true := by simp [h5]
            clear h5
            go_wp2_with fail
            refine HTK.out.mono ?_
            rintro e wt ⟨rfl, Gt, et, pt⟩
            have HT := Lib.hid (HF.out.to et pt (by unfold SW; omega) (by unfold SW; omega))
            clear et pt HF HTK
            go_wp2_with fail
            go_roundw
            case rel =>
             have a1 := HK.out.2.1
             have a2 := HK.out.2.2.1
             have a3 := HK.out.2.2.2.1
             have a4 := HGD.out
             have a5 := HK2.out.2.2.1
             exact ⟨k + 1, i + dr, n2, q + 1 + 1, Gt, awTick s2, p2, T3, y, by omega, by push_cast; rfl, by go_num, HT.out.s, HT.out.r, HK2.out.1.tick, by omega, by omega, by omega, HGI.out, HK2.out.2.2.2⟩
            case measure => simp [intOf]; omega
          · have d5 : ((k : Int) % 5 == 4) = false := by simp [h5]
            clear h5 HTK
            go_wp2_with fail
            go_roundw
            case rel =>
             have a1 := HK.out.2.1
             have a2 := HK.out.2.2.1
             have a3 := HK.out.2.2.2.1
             have a4 := HGD.out
             have a5 := HK2.out.2.2.1
             exact ⟨k + 1, i + dr, n2, q + 1, Ge, s2, p2, T3, y, by omega, by push_cast; rfl, by go_num, HF.out.s, HF.out.r, HK2.out.1, by omega, by omega, by omega, HGI.out, HK2.out.2.2.2⟩
            case measure => simp [intOf]; omega
        · obtain rfl : k = l.length := by omega
          have y00 := HS.out.1.p.wo.c0
          have hb8 := HS.out.1.p.bd 8
          have HPK := Lib.hid (fun W (hb : Below wr.heap.size wr W) => c_Peek 8 (HS.out.1.below hb).p.ce (by decide) (by decide))
          have HAL := Lib.hid (fun W => c_Alive x.key x.val x.fl x.id x.dies x.gen (s.M 8) W hb8.1 (by omega))
          obtain ⟨ep, hep⟩ : ∃ e, e = s.M 8 := ⟨_, rfl⟩
          obtain ⟨al, hal⟩ : ∃ e, e = epAlive x.dies x.gen ep := ⟨_, rfl⟩
          rw [← hep] at HPK HAL
          rw [← hal] at HAL
          have HEA := Lib.hid (And.intro hep hal)
          have r0 := HS.out.2.c 0 _ rfl
          have r1 := HS.out.2.c 1 _ rfl
          have r2 := HS.out.2.c 2 _ rfl
          have r3 := HS.out.2.c 3 _ rfl
          have r4 := HS.out.2.c 4 _ rfl
          have r5 := HS.out.2.c 5 _ rfl
          clear hb8 hep hal
          go_upto_region 27 with fail
          go_cut [20] (fun v wx => v = .bool al ∧ Below wr.heap.size wr wx)
          case first =>
           go_region_held3 (fun w' => w'.cell? ⟨B.p, 0, none⟩ = some (.pointer (some ⟨B.c, 0, none⟩)) ∧ w'.cell? ⟨R, 0, none⟩ = some (.string x.key) ∧ w'.cell? ⟨R, 1, none⟩ = some (.string x.val) ∧ w'.cell? ⟨R, 2, none⟩ = some (.int .u32 x.fl) ∧ w'.cell? ⟨R, 3, none⟩ = some (.int .u64 x.id) ∧ w'.cell? ⟨R, 4, none⟩ = some (.int .i64 x.dies) ∧ w'.cell? ⟨R, 5, none⟩ = some (.int .i64 x.gen)) (go_keep)
            (first
              | (go_at_call 12
                 refine (HPK.out _ (drew_below _)).mono ?_
                 rintro e w' ⟨rfl, rfl⟩)
              | (go_at_call 15
                 refine (HAL.out _).mono ?_
                 rintro e w3 ⟨rfl, hb3⟩
                 have HB3 := Lib.hid ((drew_below wr).trans (hb3.mono (Nat.le_refl _)))
                 have S3 := (HS.out.1.below HB3.out)
                 have R3 := (HS.out.2.below HB3.out)
                 have y00 := S3.p.wo.c0
                 have r0 := R3.c 0 _ rfl
                 have r1 := R3.c 1 _ rfl
                 have r2 := R3.c 2 _ rfl
                 have r3 := R3.c 3 _ rfl
                 have r4 := R3.c 4 _ rfl
                 have r5 := R3.c 5 _ rfl
                 clear hb3 S3 R3))
           all_goals
            go_wp2_with fail
            go_meet
            exact ⟨rfl, HB3.out⟩
          obtain ⟨rfl, hbw⟩ := hcut
          obtain ⟨wf, hwf⟩ : ∃ W, W = wc := ⟨_, rfl⟩
          rw [← hwf] at hbw ⊢
          clear hwf y00 r0 r1 r2 r3 r4 r5 k1 y0 HPK HAL
          have S4 := HS.out.1.below hbw
          have HS4 := Lib.hid S4
          have HR4 := Lib.hid (HS.out.2.below hbw)
          clear S4 hbw HS
          cases delete with
          | false =>
            go_wp2_with fail
            refine (HLV.out _ HS4.out.e.bel).mono ?_
            rintro e w9 ⟨rfl, hb9⟩
            go_wp2_with fail
            go_ret
            exact ⟨rfl, HS4.out.e.bel.trans (hb9.mono HS4.out.e.bel.size)⟩
          | true =>
            obtain ⟨cd, hcd⟩ : ∃ cd : Clm, cd = ⟨7, key, ⟨#[]⟩, 0, 0, 0, 0⟩ := ⟨_, rfl⟩
            have ob := HS4.out.x
            rw [HC1.out] at ob
            have k1 := ob.c 1 _ rfl
            clear ob
            have hcld : clV cd = .agg #[.int .u8 7, .string key, .string ⟨#[]⟩, .int .u32 0, .int .i64 0, .int .u64 0, .int .u64 0] := by rw [hcd]; rfl
            cases al with
            | false =>
              have HDD := Lib.hid (c_DeadDoes HK.out.1 HS4.out.p (HVE.out wf G HS4.out.e) HS4.out.e.hi 5 (by decide) cd (by rw [hcd]) (by rw [hcd]; exact .inl rfl) HKO2.out.symm HKZ.out.1 (by rw [hcd]) (by rw [hcd]) (by have := HK.out.2.1; omega) (by have := HK.out.2.2.2.1; omega) HK.out.2.2.2.2.2 (by rw [← HEA.out.1]; exact HEA.out.2.symm))
              obtain ⟨s5, K5, hD5⟩ := HDD.out
              rw [hcld] at hD5
              unfold ansV at hD5
              have HD5 := Lib.hid hD5
              have HK5 := Lib.hid K5
              clear hD5 K5 HDD hcld
              go_wp2_with fail
              refine HD5.out.mono ?_
              rintro e wg ⟨rfl, Gg, eg, pg⟩
              have A6 := (⟨HS4.out, HR4.out, fun q hq => by cases hq⟩ : RwS w wf G B s cb c1 R x [])
              have A7 := ((A6.to eg pg (by unfold SX; omega) (by unfold SX; omega)).lay [.int .u8 4, .int .u64 0, .string ⟨#[]⟩, .string ⟨#[]⟩, .int .u32 0, .int .u64 0, .int .i64 0, .int .i64 0] 36)
              obtain ⟨bQ, hbQ⟩ : ∃ n, n = wg.heap.size := ⟨_, rfl⟩
              obtain ⟨Vg, hVg⟩ : ∃ W, W = wg.alloc (.cells #[.int .u8 4, .int .u64 0, .string ⟨#[]⟩, .string ⟨#[]⟩, .int .u32 0, .int .u64 0, .int .i64 0, .int .i64 0] 36) := ⟨_, rfl⟩
              have H7 : Hid (RwS w Vg Gg B s5 cb c1 R x [(bQ, [.int .u8 4, .int .u64 0, .string ⟨#[]⟩, .string ⟨#[]⟩, .int .u32 0, .int .u64 0, .int .i64 0, .int .i64 0])]) := Lib.hid (by rw [hVg, hbQ]; exact A7)
              clear A6 A7 eg pg HD5 k1
              have hat : atL key s5 = [(n : Int)] := atL_o HK5.out.sw HK5.out.std
              have his : itIs s5.it n = true := by
               have h1 := fdHit_pos HK5.out.std.hit
               unfold itIs
               rw [HK5.out.len]
               exact decide_eq_true ⟨by omega, Int.le_refl _⟩
              have HRC := Lib.hid (c_rec26 (f := ⟨3, 8, 3, 1, 16⟩) hat H7.out.s.p HKZ.out.1 (by rw [HK5.out.len]; have := HK.out.2.1; omega) (by have := HK.out.2.1; omega) H7.out.s.e.hi)
              rw [his, HK5.out.last] at HRC
              unfold itV at HRC
              have ob := H7.out.s.x
              rw [HC1.out] at ob
              have k1 := ob.c 1 _ rfl
              clear ob his hat
              go_upto_region 31 with fail
              rw [← hVg, ← hbQ]
              clear hVg hbQ
              go_wp2_with fail
              refine HRC.out.mono ?_
              rintro e wh ⟨rfl, Gh, eh, ph⟩
              have A8 := H7.out.to eh ph (by unfold SX; omega) (by unfold SX; omega)
              have H8 := Lib.hid A8
              have y00 := A8.s.p.wo.c0
              have a0 := (A8.l _ (.head _)).c 0 _ rfl
              have PK6 := Lib.hid (c_Peek 6 A8.s.p.ce (by decide) (by decide))
              rw [HK5.out.cnt] at PK6
              clear eh ph A8 H7 HRC k1
              go_wp2_with fail
              refine PK6.out.mono ?_
              rintro e w' ⟨rfl, rfl⟩
              go_wp2_with fail
              refine (HLV.out _ H8.out.s.e.bel).mono ?_
              rintro e w9 ⟨rfl, hb9⟩
              go_wp2_with fail
              go_ret
              exact ⟨rfl, H8.out.s.e.bel.trans (hb9.mono H8.out.s.e.bel.size)⟩
            | true =>
              have HDD := Lib.hid (c_DelDoes HK.out.1 HS4.out.p (HVE.out wf G HS4.out.e) HS4.out.e.hi 5 (by decide) cd (by rw [hcd]) (by rw [hcd]) HKO2.out.symm HKZ.out.1 (by rw [hcd]) (by rw [hcd]) (by have := HK.out.2.1; omega) (by have := HK.out.2.2.2.1; omega) HK.out.2.2.2.2.2 (by rw [← HEA.out.1]; exact HEA.out.2.symm))
              obtain ⟨s5, T5, S5, N5, m65, m05, nt5, it5, n05, n15, hD5⟩ := HDD.out
              rw [hcld] at hD5
              unfold ansV at hD5
              have HD5 := Lib.hid hD5
              have HK5 := Lib.hid (And.intro S5 (And.intro N5 (And.intro m65 (And.intro m05 (And.intro nt5 (And.intro it5 (And.intro n05 n15)))))))
              clear hD5 S5 N5 m65 m05 nt5 it5 n05 n15 HDD hcld
              go_wp2_with fail
              refine HD5.out.mono ?_
              rintro e wg ⟨rfl, Gg, eg, pg⟩
              have A6 := (⟨HS4.out, HR4.out, fun q hq => by cases hq⟩ : RwS w wf G B s cb c1 R x [])
              have A7 := ((A6.to eg pg (by unfold SX; omega) (by unfold SX; omega)).lay [.int .u8 6, .int .u64 0, .string ⟨#[]⟩, .string ⟨#[]⟩, .int .u32 0, .int .u64 0, .int .i64 0, .int .i64 0] 36)
              obtain ⟨bQ, hbQ⟩ : ∃ n, n = wg.heap.size := ⟨_, rfl⟩
              obtain ⟨Vg, hVg⟩ : ∃ W, W = wg.alloc (.cells #[.int .u8 6, .int .u64 0, .string ⟨#[]⟩, .string ⟨#[]⟩, .int .u32 0, .int .u64 0, .int .i64 0, .int .i64 0] 36) := ⟨_, rfl⟩
              have H7 : Hid (RwS w Vg Gg B s5 cb c1 R x [(bQ, [.int .u8 6, .int .u64 0, .string ⟨#[]⟩, .string ⟨#[]⟩, .int .u32 0, .int .u64 0, .int .i64 0, .int .i64 0])]) := Lib.hid (by rw [hVg, hbQ]; exact A7)
              clear A6 A7 eg pg HD5 k1
              have hat : atL key s5 = [] := atL_no HK5.out.1 HK5.out.2.1
              have hl5 : s5.it.length = n := by rw [HK5.out.2.2.2.2.2.1]; exact HK.out.1.len
              have HRC := Lib.hid (c_rec26N (f := ⟨3, 8, 3, 1, 16⟩) hat H7.out.s.p HKZ.out.1 (by rw [hl5]; have := HK.out.2.1; omega) H7.out.s.e.hi)
              unfold itV it00 at HRC
              dsimp only at HRC
              have ob := H7.out.s.x
              rw [HC1.out] at ob
              have k1 := ob.c 1 _ rfl
              have HL5 := Lib.hid hl5
              clear ob hat hl5
              go_upto_region 31 with fail
              rw [← hVg, ← hbQ]
              clear hVg hbQ
              go_wp2_with fail
              refine HRC.out.mono ?_
              rintro e wh ⟨rfl, Gh, eh, ph⟩
              have A8 := H7.out.to eh ph (by unfold SX; omega) (by unfold SX; omega)
              have H8 := Lib.hid A8
              obtain ⟨ce, hce⟩ : ∃ ce : Clm, ce = ⟨9, key, ⟨#[]⟩, 0, 0, 0, 0⟩ := ⟨_, rfl⟩
              have hcle : clV ce = .agg #[.int .u8 9, .string key, .string ⟨#[]⟩, .int .u32 0, .int .i64 0, .int .u64 0, .int .u64 0] := by rw [hce]; rfl
              obtain ⟨s6, m66, nt6, hD6⟩ := c_NoDoes HK5.out.1 HK5.out.2.2.2.1 HK5.out.2.1 A8.s.p (HVE.out wh Gh A8.s.e) A8.s.e.hi 5 (by decide) ce (by rw [hce]) (by rw [hce]; exact .inr (.inr (.inl rfl))) HKO2.out.symm HKZ.out.1 (by rw [hce]) (by rw [hce]) (by rw [HL5.out]; have := HK.out.2.1; omega) HK5.out.2.2.2.2.2.2.1 (by have := HK5.out.2.2.2.2.2.2.2; have := HK.out.2.2.2.1; omega) (by rw [HK5.out.2.2.2.2.2.1]; exact HK.out.2.2.2.2.2)
              rw [hcle] at hD6
              unfold ansV at hD6
              have HD6 := Lib.hid hD6
              have HM6 := Lib.hid (And.intro (m66.trans HK5.out.2.2.1) (nt6.trans HK5.out.2.2.2.2.1))
              have ob := A8.s.x
              rw [HC1.out] at ob
              have k1 := ob.c 1 _ rfl
              clear eh ph A8 H7 HRC hD6 m66 nt6 hcle ob
              go_wp2_with fail
              refine HD6.out.mono ?_
              rintro e wi ⟨rfl, Gi, ei, pi⟩
              have A9 := ((H8.out.to ei pi (by unfold SX; omega) (by unfold SX; omega)).lay [.int .u8 4, .int .u64 0, .string ⟨#[]⟩, .string ⟨#[]⟩, .int .u32 0, .int .u64 0, .int .i64 0, .int .i64 0] 36)
              obtain ⟨bZ, hbZ⟩ : ∃ n, n = wi.heap.size := ⟨_, rfl⟩
              obtain ⟨Vi, hVi⟩ : ∃ W, W = wi.alloc (.cells #[.int .u8 4, .int .u64 0, .string ⟨#[]⟩, .string ⟨#[]⟩, .int .u32 0, .int .u64 0, .int .i64 0, .int .i64 0] 36) := ⟨_, rfl⟩
              have H9 : Hid (RwS w Vi Gi B s6 cb c1 R x [(bZ, [.int .u8 4, .int .u64 0, .string ⟨#[]⟩, .string ⟨#[]⟩, .int .u32 0, .int .u64 0, .int .i64 0, .int .i64 0]), (bQ, [.int .u8 6, .int .u64 0, .string ⟨#[]⟩, .string ⟨#[]⟩, .int .u32 0, .int .u64 0, .int .i64 0, .int .i64 0])]) := Lib.hid (by rw [hVi, hbZ]; exact A9)
              clear A9 ei pi HD6 k1 H8
              have y00 := H9.out.s.p.wo.c0
              have y02 := H9.out.s.p.wo.c2
              have a0 := (H9.out.l _ (.tail _ (.head _))).c 0 _ rfl
              have z0 := (H9.out.l _ (.head _)).c 0 _ rfl
              have PK6 := Lib.hid (c_Peek 6 H9.out.s.p.ce (by decide) (by decide))
              rw [HM6.out.1] at PK6
              have HNC : Hid (Calls Tryz.prog 16 #[.pointer (some ⟨B.np, 0, none⟩)] Vi fun e w' => e = .returned (.int .i64 0) ∧ Vi = w') := Lib.hid (by
               obtain ⟨v, hN, -⟩ := H9.out.s.p.no.ex
               rw [HM6.out.2] at hN
               obtain ⟨-, ao, cp, rfl, -⟩ := Arr.of_own hN.own
               exact c_NtCount _ ao 0 cp _ hN.head)
              go_upto_region 35 with fail
              rw [← hVi, ← hbZ]
              clear hVi hbZ
              go_wp2_with fail
              refine PK6.out.mono ?_
              rintro e w' ⟨rfl, rfl⟩
              go_wp2_with fail
              refine HNC.out.mono ?_
              rintro e w' ⟨rfl, rfl⟩
              go_wp2_with fail
              refine (HLV.out _ H9.out.s.e.bel).mono ?_
              rintro e w9 ⟨rfl, hb9⟩
              go_wp2_with fail
              go_ret
              exact ⟨rfl, H9.out.s.e.bel.trans (hb9.mono H9.out.s.e.bel.size)⟩
     · have hcs : ok = false ∨ (ok = true ∧ vo = false) := by
        cases ok with
        | false => exact .inl rfl
        | true =>
          cases vo with
          | false => exact .inr ⟨rfl, rfl⟩
          | true => exact absurd rfl hm
       clear HKO HKO2 HMB hm
       rcases hcs with rfl | ⟨rfl, rfl⟩
       · go_wp2_with fail
         refine (HOK.out _).mono ?_
         rintro e w' ⟨rfl, rfl⟩
         go_wp2_with fail
         refine (HLV.out _ HS2.out.e.bel).mono ?_
         rintro e w9 ⟨rfl, hb9⟩
         go_wp2_with fail
         go_ret
         exact ⟨rfl, HS2.out.e.bel.trans (hb9.mono HS2.out.e.bel.size)⟩
       · go_wp2_with fail
         refine (HOK.out _).mono ?_
         rintro e w' ⟨rfl, rfl⟩
         go_wp2_with fail
         refine (HVO.out _).mono ?_
         rintro e w' ⟨rfl, rfl⟩
         go_wp2_with fail
         refine (HLV.out _ HS2.out.e.bel).mono ?_
         rintro e w9 ⟨rfl, hb9⟩
         go_wp2_with fail
         go_ret
         exact ⟨rfl, HS2.out.e.bel.trans (hb9.mono HS2.out.e.bel.size)⟩
end Go.Proofs.YtifkfhnbkjkakaaGreatDoor
