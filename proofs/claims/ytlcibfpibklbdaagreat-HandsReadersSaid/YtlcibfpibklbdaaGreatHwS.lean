/- Layer 23: HandsReaders. -/
import Derived.Test.YtlcibfpibklbdaaGreatHwR
import Derived.Test.YtlcibfpibklbdaaGreatSlG
namespace Go.Proofs.YtlcibfpibklbdaaGreat
set_option linter.unusedSimpArgs false
open Go.RowKit Go.Shelf
set_option linter.unusedVariables false
/-- Is there an item? -/
theorem WaR.some {b : Int} {M : Int → Int} {A : Nat} {kv : Int} (hA : (A : Int) = plSpots b) (h0 : 0 < A) (h : WaR b 0 M A kv) : (kv = -1 ∧ ∀ t : Int, M (plAt b t).item = 0) ∨ (0 ≤ kv ∧ ∃ t : Int, M (plAt b t).item ≠ 0) := by
  have one : ∀ k : Nat, waI b 0 M k ≠ 0 → ∃ t : Int, M (plAt b t).item ≠ 0 := fun k hz => ⟨0 + k, hz⟩
  cases h with
  | none h =>
    refine .inl ⟨rfl, fun t => ?_⟩
    have q0 := Int.emod_nonneg t (show (A : Int) ≠ 0 by omega)
    have q1 := Int.emod_lt_of_pos t (show 0 < (A : Int) by omega)
    have := h (t % (A : Int)).toNat (by omega)
    unfold waI at this
    rw [Int.toNat_of_nonneg q0, Int.zero_add] at this
    rw [← this]
    congr 2
    refine plAt_mod ?_
    rw [← hA, Int.emod_emod_of_dvd _ (Int.dvd_refl _)]
  | one k hk hz he h => exact .inr ⟨by omega, one k hz⟩
  | round k hk hz h ho => exact .inr ⟨by omega, one k hz⟩
theorem HrE.spot {b fr : Int} {M0 M : Int → Int} {z : Evm} (h : HrE b fr M0 M z) (hs : 0 < plSpots b) : (z.ref = 0 → ∀ t : Int, M0 (plAt b t).item = 0) ∧ (z.ref ≠ 0 → M0 (evSpot z).item = z.ref ∧ M (evSpot z).item = 0) := by
  refine ⟨fun hz t => ?_, fun hz => ?_⟩
  · have q0 := Int.emod_nonneg (t - fr) (show plSpots b ≠ 0 by omega)
    have q1 := Int.emod_lt_of_pos (t - fr) (show 0 < plSpots b by omega)
    have := h.no hz ((t - fr) % plSpots b).toNat (by omega)
    rw [Int.toNat_of_nonneg q0] at this
    rw [← this]
    congr 2
    refine plAt_mod ?_
    rw [Int.add_emod_emod]
    congr 1
    omega
  · have := h.ye hz
    unfold evSpot
    rw [h.t, h.hh]
    exact ⟨this.1.symm, this.2⟩
theorem ntc_len8 (n : Nt) : (ntc n).length = 8 := rfl
/-- A word of a block that is nobody's. -/
structure BxAt (W : World) (G : Om) (Q : Nat) (v : Value) : Prop where
  o : G Q = 0
  lt : Q < W.heap.size
  c : W.cell? ⟨Q, 5, none⟩ = some v
theorem BxAt.ext {S : Nat → Prop} {W W' : World} {G G' : Om} {Q : Nat} {v : Value} (h : BxAt W G Q v) (e : Ext S G W G' W') (hs : ¬ S 0) : BxAt W' G' Q v :=
  ⟨(e.lo Q h.lt).trans h.o, Nat.lt_of_lt_of_le h.lt e.size, (e.cell (p := ⟨Q, 5, none⟩) h.lt (by rw [h.o]; exact hs)).trans h.c⟩
theorem HrL.fin {b fr : Int} {M0 M : Int → Int} {nt : List Nt} {T : Nat → Tc} {z : Evm} (h : HrL b fr M0 M nt T z) (hz : z.ln = 0) : HrE b fr M0 M z ∧ nt ≠ [] := by
  cases h with
  | l0 ln E ne => exact ⟨E, ne⟩
  | l1 ln => omega
  | l2 ln => omega
  | l3 ln => omega
  | l4 ln => omega
  | l5 ln => omega
  | l6 ln => omega
  | l7 ln => omega
  | l8 ln => omega
  | l9 ln => omega
  | l10 ln => omega
  | l11 ln => omega
  | l12 ln => omega
theorem HrI.start {b fr : Int} {s : AW} (H : HfI b fr s.M) (hn : s.nt = []) (n0 : 0 ≤ s.n) : HrI b fr s.M s evNew fun _ => ⟨0, 0, 0, false⟩ := by
  refine ⟨H.wd, fun r hr => ?_, n0, fun i => .inl rfl, fun x hx => (by rw [hn] at hx; cases hx), fun x hx => (by rw [hn] at hx; cases hx), by rw [hn]; exact n0, .l1 rfl (fun t => rfl) H.hd⟩
  have := H.mr r hr
  omega
set_option maxHeartbeats 8000000 in
set_option maxRecDepth 100000 in
theorem w_HandsReaders (v : Value) (F : Ful) (vm : Value) (ml : List Int) (vw : Value) (wl : List Int) (w : World) (g : FulBd F) (c : FulAt w v F) (gm : ∀ z ∈ ml, 0 ≤ z ∧ z ≤ 255) (cm : Arr w vm ml.length 1 (rowOf byArg ml)) (gw : ∀ z ∈ wl, 0 ≤ z ∧ z ≤ 255) (cw : Arr w vw wl.length 1 (rowOf byArg wl)) :
    Calls Tryz.prog 5 #[v, vm, vw] w fun e w' => e = .returned (.bool true) ∧ Below w.heap.size w w' := by
  obtain ⟨am, cc, rfl, hcc, hmm⟩ := cm.shape
  obtain ⟨aw, cx, rfl, hcx, hmw⟩ := cw.shape
  obtain ⟨hand, hhd⟩ : ∃ hand : Int, hand = (wl.length : Int) := ⟨_, rfl⟩
  have h0 : 0 ≤ hand := by omega
  have h1 : hand ≤ 18446744073709551615 := by unfold maxLen at hmw; omega
  have HG : Hid (∀ W, Below w.heap.size w W → Calls Tryz.prog 13 #[v] W (FulGreat W F)) := Lib.hid fun W hb => c_Great17 (c.below hb) g
  have HM : Hid (∀ W, Below w.heap.size w W → F.ks.length ≤ 40 → F.ly.length ≤ 80 → ml.length ≤ 40 → Calls Tryz.prog 15 #[v, .slice am ml.length cc, .int .u64 hand] W (MarkPost W F ml hand)) := Lib.hid fun W hb hk hl hm => c_marked (c.below hb) g hk hl (cm.below hb) gm hm h0 (by omega)
  obtain ⟨vk, vl, vs, rfl, -, -, c5⟩ := c.ex
  obtain ⟨as', cs', rfl, hcs, hms⟩ := c5.shape
  obtain ⟨b, hb⟩ : ∃ b, b = fulB F := ⟨_, rfl⟩
  have hbi : 1 ≤ b ∧ b ≤ 3 := by rw [hb]; unfold fulB; have := g.b0; omega
  have HML := Lib.hid gm
  have HWL := Lib.hid gw
  have HCW := Lib.hid cw
  have HSP := Lib.hid c5
  have HSB := Lib.hid g.sp
  have hwx : wl.length ≤ 9223372036854775807 := by unfold maxLen at hmw; omega
  have hsx : F.sp.length ≤ 9223372036854775807 := by unfold maxLen at hms; omega
  rw [hhd] at HM
  clear hhd h0 h1
  have hmx : ml.length ≤ 9223372036854775807 := by unfold maxLen at hmm; omega
  unfold MarkPost at HM
  unfold FulGreat at HG
  rw [← hb] at HM
  unfold fulV at HG HM ⊢
  clear c g hb gm cm gw cw c5
  go_enter Tryz.func5, Tryz.ntmps5
  have hbox := fulBox (w := w) (F := F) (vk := vk) (vl := vl) (vs := .slice as' F.sp.length cs') 26
  unfold fulC at hbox
  have hb0 := (Below.refl w.heap.size w).alloc (Nat.le_refl _) (.cells #[.int .u8 F.bi, vk, vl, .string F.ky, .int .u8 F.mo, .slice as' F.sp.length cs'] 26)
  have hl0 : w.heap.size < (w.alloc (.cells #[.int .u8 F.bi, vk, vl, .string F.ky, .int .u8 F.mo, .slice as' F.sp.length cs'] 26)).heap.size := by simp
  have y0 := hbox 0 _ rfl
  have y1 := hbox 1 _ rfl
  have y2 := hbox 2 _ rfl
  have y3 := hbox 3 _ rfl
  have y4 := hbox 4 _ rfl
  have y5 := hbox 5 _ rfl
  go_wp2_with fail
  obtain ⟨W0, hW0⟩ : ∃ W, W = w.alloc (.cells #[.int .u8 F.bi, vk, vl, .string F.ky, .int .u8 F.mo, .slice as' F.sp.length cs'] 26) := ⟨_, rfl⟩
  rw [← hW0] at hbox hb0 hl0 ⊢
  have HB0 := Lib.hid hb0
  have HL0 := Lib.hid hl0
  have HBX := Lib.hid hbox
  clear hW0 y0 y1 y2 y3 y4 y5 hbox hb0 hl0
  refine (HG.out W0 HB0.out).mono ?_
  rintro e w1 ⟨gr, rfl, hb1, hg⟩
  have B1 : Hid (Below w.heap.size w w1) := Lib.hid (HB0.out.trans (hb1.mono HB0.out.size))
  have fin : Hid (∀ w2, Below w1.heap.size w1 w2 → Below w.heap.size w w2) := Lib.hid fun w2 hb2 => B1.out.trans (hb2.mono B1.out.size)
  cases gr with
  | true =>
    clear hg hb1
    go_wp2_with fail
    refine (c_lives23 w1).mono ?_
    rintro e w2 ⟨rfl, hb2⟩
    go_wp2_with fail
    go_ret
    exact ⟨rfl, fin.out w2 hb2⟩
  | false =>
  by_cases hml : 40 < ml.length
  · have d0 : decide ((40 : Int) < (ml.length : Int)) = true := decide_eq_true (by omega)
    clear hg hb1
    go_wp2_with fail
    refine (c_lives23 w1).mono ?_
    rintro e w2 ⟨rfl, hb2⟩
    go_wp2_with fail
    go_ret
    exact ⟨rfl, fin.out w2 hb2⟩
  · have d0 : decide ((40 : Int) < (ml.length : Int)) = false := decide_eq_false (by omega)
    by_cases hwl : 40 < wl.length
    · have d02 : decide ((40 : Int) < (wl.length : Int)) = true := decide_eq_true (by omega)
      clear hg hb1
      go_wp2_with fail
      refine (c_lives23 w1).mono ?_
      rintro e w2 ⟨rfl, hb2⟩
      go_wp2_with fail
      go_ret
      exact ⟨rfl, fin.out w2 hb2⟩
    have d02 : decide ((40 : Int) < (wl.length : Int)) = false := decide_eq_false (by omega)
    obtain ⟨hks, hly, hsl⟩ := hg rfl
    have hbx : ∀ j u, [Value.int .u8 F.bi, vk, vl, .string F.ky, .int .u8 F.mo, .slice as' F.sp.length cs'][j]? = some u → w1.cell? ⟨w.heap.size, j, none⟩ = some u := fun j u hu => (hb1.cell (p := ⟨w.heap.size, j, none⟩) HL0.out).trans (HBX.out j u hu)
    have y0 := hbx 0 _ rfl
    have y1 := hbx 1 _ rfl
    have y2 := hbx 2 _ rfl
    have y3 := hbx 3 _ rfl
    have y4 := hbx 4 _ rfl
    have y5 := hbx 5 _ rfl
    have hq1 : w.heap.size < w1.heap.size := Nat.lt_of_lt_of_le HL0.out hb1.size
    have HBX1 := Lib.hid hbx
    clear hg hb1 hbx HBX HL0 HB0 HG
    go_wp2_with fail
    refine (HM.out w1 B1.out hks hly (by omega)).mono ?_
    rintro e w2 ⟨B, O2, s, rfl, hL, hS⟩
    have hq2 : w.heap.size < w2.heap.size := Nat.lt_of_lt_of_le hq1 hL.bel.size
    have hqo : O2 w.heap.size = 0 := by
      by_cases c : O2 w.heap.size = 0
      · exact c
      · exact absurd (hL.e.base _ c) (by omega)
    have HBX2 : Hid (∀ j u, [Value.int .u8 F.bi, vk, vl, .string F.ky, .int .u8 F.mo, .slice as' F.sp.length cs'][j]? = some u → w2.cell? ⟨w.heap.size, j, none⟩ = some u) := Lib.hid fun j u hu => (hL.bel.cell (p := ⟨w.heap.size, j, none⟩) hq1).trans (HBX1.out j u hu)
    clear HBX1
    clear y0 y1 y2 y3 y4 y5 HM
    have L2 := Lib.hid (hL.from B1.out)
    have HS := Lib.hid hS
    have HF := Lib.hid (hS.hf hks HML.out)
    have HIT := Lib.hid (hS.item hks)
    have hwd := hS.wd
    clear hL hS B1
    have p0 := L2.out.p.wo.c0
    have HPK := Lib.hid (L2.out.peek 2 (by decide) (by decide) w2 (Below.refl _ _))
    rw [hwd] at HPK
    have HWD := Lib.hid hwd
    clear hwd
    go_wp2_with fail
    refine HPK.out.mono ?_
    rintro e w' ⟨rfl, rfl⟩
    go_wp2_with fail
    refine (c_Spots b _ (by omega) (by omega)).mono ?_
    rintro e w' ⟨rfl, rfl⟩
    have hsp := plSpots_3 hbi.1 hbi.2
    obtain ⟨A, hA⟩ : ∃ A : Nat, (A : Int) = plSpots b := ⟨(plSpots b).toNat, by omega⟩
    have HA := Lib.hid hA
    rw [← hA] at HF hsp ⊢
    clear hA HPK
    have d1 : decide ((A : Int) < 1) = false := decide_eq_false (by omega)
    obtain ⟨fr, hfr⟩ : ∃ fr, fr = (wl.length : Int) % (A : Int) := ⟨_, rfl⟩
    have hfb : 0 ≤ fr ∧ fr < 32 := by rw [hfr]; have := Int.emod_nonneg (wl.length : Int) (show (A : Int) ≠ 0 by omega); have := Int.emod_lt_of_pos (wl.length : Int) (show 0 < (A : Int) by omega); omega
    rw [← hfr] at HF
    have HWN := Lib.hid (c_want L2.out hbi.1 hbi.2 HWD.out HIT.out (Int.le_refl 0) (by decide) A HA.out)
    clear hfr
    go_wp2_with fail
    refine HWN.out.mono ?_
    rintro e w3 ⟨kv, rfl, hW, hb3⟩
    have L3 := Lib.hid (L2.out.below hb3)
    have hKV := WaR.some HA.out (by omega) hW
    have KV := Lib.hid hKV
    obtain ⟨bv, hbv⟩ : ∃ bv : Value, bv = .slice as' F.sp.length cs' := ⟨_, rfl⟩
    have Q3 : BxAt w3 O2 w.heap.size bv := ⟨hqo, Nat.lt_of_lt_of_le hq2 hb3.size, (hb3.cell (p := ⟨w.heap.size, 5, none⟩) hq2).trans (by rw [hbv]; exact HBX2.out 5 _ rfl)⟩
    have HBV := Lib.hid hbv
    clear hW hKV hb3 HWN L2 p0 HBX2 hqo hbv
    go_wp2_with fail
    refine (c_NewEvict 10 L3.out.hi).mono ?_
    rintro e w4 ⟨X, rfl, G4, e4, x4⟩
    have L4 := L3.out.ext e4 (by decide) (by decide) (by decide) (by decide)
    have Q4 := Q3.ext e4 (by decide)
    obtain ⟨G6, e6, x6, -⟩ := alloc_ob L4.hi 60 (tsC fun _ => none).toArray 62 w4.heap.size rfl
    have L6 := Lib.hid (L4.ext e6 (by decide) (by decide) (by decide) (by decide))
    have Q6 := Q4.ext e6 (by decide)
    have E6 := Lib.hid (x4.ext e6 (fun t h1 h2 k => by omega))
    clear L3 Q3 L4 Q4 e4 x4 e6
    go_upto_region 12 with fail
    generalize hW5 : World.alloc w4 _ = W5
    have hW6 : w4.alloc (.cells (tsC fun _ => none).toArray 62) = W5 := hW5
    clear hW5
    rw [hW6] at x6 L6 Q6 E6
    clear hW6
    obtain ⟨N, hN⟩ : ∃ N, N = w4.heap.size := ⟨_, rfl⟩
    rw [← hN] at x6 ⊢
    clear hN
    obtain ⟨Q, hQ⟩ : ∃ Q, Q = w.heap.size := ⟨_, rfl⟩
    rw [← hQ] at Q6 ⊢
    clear hQ hq1 hq2
    have X6 : Hid (TsAt W5 G6 N (fun _ => none) fun _ => ⟨0, 0, 0, false⟩) := Lib.hid ⟨x6, fun j hj => .inl ⟨rfl, rfl⟩⟩
    have Q6 := Lib.hid Q6
    have I6 : Hid (HrI b fr s.M s evNew fun _ => ⟨0, 0, 0, false⟩) := Lib.hid (HrI.start HF.out HS.out.nt HS.out.n0)
    obtain ⟨M0, hM0⟩ : ∃ M0, M0 = s.M := ⟨_, rfl⟩
    rw [← hM0] at I6 HF KV
    have hsn : s.n ≤ 1100 := HS.out.n1
    have HMU : Hid (HrT 0 (hrMu b evNew)) := Lib.hid ⟨by have h : hrMu b evNew = 6 * plSpots b + 11 := rfl; rw [h, ← HA.out]; omega, fun h => by omega⟩
    clear x6 hM0 HS HIT HWD
    go_loopw [12, 13] (fun nv iv wr => ∃ (i nx : Nat) (G : Om) (s : AW) (z : Evm) (T : Nat → Tc) (xs : Nat → Option Nat), iv = .int .i64 i ∧ nv = .int .i64 nx ∧ i ≤ 2000 ∧ nx ≤ i ∧ LW w wr G B ⟨b, 8, 3, 1, 16⟩ s ∧ (EvAt wr G 10 X z ∧ EvOk z) ∧ TsAt wr G N xs T ∧ BxAt wr G Q bv ∧ HrI b fr M0 s z T ∧ HrT i (hrMu b z) ∧ s.n ≤ 1100 + i) (fun _ iv _ => 2000 - (intOf iv).toNat)
    case atStart => exact ⟨0, 0, G6, s, evNew, _, _, rfl, rfl, by omega, by omega, L6.out, ⟨E6.out, evNew_ok⟩, X6.out, Q6.out, I6.out, HMU.out, by omega⟩
    case round =>
      clear L6 E6 X6 Q6 I6 HMU hsn
      obtain ⟨i, nx, G5, s5, z5, T5, xs5, rfl, rfl, hi, hnx, hL, hE, hT, hQ, hI, hTT, hn5⟩ := hrel
      obtain ⟨w5, hw5⟩ : ∃ w5, w5 = wr := ⟨_, rfl⟩
      subst hw5
      have L5 := Lib.hid hL
      have E5 := Lib.hid hE
      have S5 := Lib.hid hT
      have Q5 := Lib.hid hQ
      have I5 := Lib.hid hI
      have TT := Lib.hid hTT
      have hi2 : i < 2000 := by
        by_cases c : i = 2000
        · exact absurd (hTT.last c hI.L.mu0) id
        · omega
      have HOV0 := Lib.hid (c_EvOver hE.1.cell0)
      have q5c := hQ.c
      rw [HBV.out] at q5c
      have p0 := hL.p.wo.c0
      clear hL hE hT hQ hI hTT
      have di : decide ((i : Int) < 2000) = true := decide_eq_true (by omega)
      go_wp2_with fail
      refine HOV0.out.mono ?_
      rintro e w' ⟨rfl, rfl⟩
      by_cases hzl : z5.ln = 0
      · have dz : (z5.ln == 0) = true := by simp [hzl]
        obtain ⟨hE, hne⟩ := I5.out.L.fin hzl
        obtain ⟨hz1, hz2⟩ := hE.spot (by rw [← HA.out]; omega)
        have hr0 := E5.out.2.r0
        have hr1 := E5.out.2.r1
        have HG := c_EvGot E5.out.1 E5.out.2
        have HOV1 : Hid (∀ W, Below w5.heap.size w5 W → Calls Tryz.prog 23 #[.pointer (some ⟨X, 0, none⟩)] W fun e w' => e = .returned (.bool true) ∧ W = w') := Lib.hid fun W hb => by
          have h := c_EvOver (w := W) (E5.out.1.below hb).cell0
          rw [dz] at h
          exact h
        have NK := Lib.hid I5.out.nk
        have hnl : s5.nt.length ≤ 10000 := by have := I5.out.nl; omega
        have HNE := Lib.hid hne
        obtain ⟨p, rr, hgot, hkv, hits, hrr⟩ : ∃ (p : Spt) (rr : Int), evGot z5 = (rr, p) ∧ decide (0 < rr) = decide (0 ≤ kv) ∧ (∀ W, Below w5.heap.size w5 W → ∃ tg it, (0 < rr → it = 0) ∧ Calls Tryz.prog 19 #[.pointer (some ⟨B.p, 0, none⟩), .agg #[.int .i64 p.b, .int .i64 p.q, .int .i64 p.s]] W fun e w' => e = .returned (.tuple #[.int .i64 tg, .int .u64 it]) ∧ Below W.heap.size W w') ∧ (0 ≤ rr ∧ rr ≤ 40) := by
          by_cases hrz : z5.ref = 0
          · refine ⟨⟨0, 0, 0⟩, 0, by unfold evGot; rw [if_neg (fun q => q.2 hrz)], ?_, fun W hb => ⟨_, _, fun h => by omega, c_Slot0 (L5.out.below hb).p (L5.out.below hb).hi⟩, by omega⟩
            rcases KV.out with ⟨h1, -⟩ | ⟨-, t, h2⟩
            · rw [h1]; rfl
            · exact absurd (hz1 hrz t) h2
          · have hit := hz2 hrz
            have hb := HF.out.it (z5.h + z5.n)
            have hsp : (evSpot z5).item = (plAt b (z5.h + z5.n)).item := by unfold evSpot; rw [hE.t]
            rw [← hsp, hit.1] at hb
            refine ⟨evSpot z5, z5.ref, by unfold evGot; rw [if_pos ⟨hzl, hrz⟩], ?_, fun W hb => ⟨_, _, fun _ => hit.2, c_Slot (evSpot z5) (L5.out.below hb).p (plAt_ok _ _) (L5.out.below hb).hi⟩, hb⟩
            rcases KV.out with ⟨-, h1⟩ | ⟨h1, -⟩
            · exfalso
              have := h1 (z5.h + z5.n)
              rw [← hsp, hit.1] at this
              exact hrz this
            · rw [decide_eq_true h1, decide_eq_true (by omega)]
        rw [hgot] at HG
        unfold spV at HG
        have HG := Lib.hid HG
        have HITS := Lib.hid hits
        have KVB := Lib.hid hkv
        obtain ⟨vn, hn, -⟩ := L5.out.p.no.ex
        obtain ⟨an, cn, rfl, -, -⟩ := (Arr.of_own hn.own).shape
        have HAR := Lib.hid (Arr.of_own hn.own)
        have HNH := Lib.hid hn.head
        have HNL := Lib.hid hn.lt
        have p2 := L5.out.p.wo.c2
        have HBL := Lib.hid L5.out.bel
        have hpl := L5.out.p.wo.lt
        clear hE hne hz1 hz2 hr0 hr1 hgot hkv hits q5c HOV0 hn
        go_wp2_with fail
        refine HG.out.mono ?_
        rintro e w6 ⟨rfl, hb6⟩
        have hba := (Below.refl w6.heap.size w6).alloc (Nat.le_refl _) (.cells #[.int .i64 p.b, .int .i64 p.q, .int .i64 p.s] 45)
        have B6 : Hid (Below w5.heap.size w5 (w6.alloc (.cells #[.int .i64 p.b, .int .i64 p.q, .int .i64 p.s] 45))) := Lib.hid (hb6.trans (hba.mono hb6.size))
        have v0 := cell_newA w6 #[.int .i64 p.b, .int .i64 p.q, .int .i64 p.s] 45 _ rfl 0 _ rfl
        have v1 := cell_newA w6 #[.int .i64 p.b, .int .i64 p.q, .int .i64 p.s] 45 _ rfl 1 _ rfl
        have v2 := cell_newA w6 #[.int .i64 p.b, .int .i64 p.q, .int .i64 p.s] 45 _ rfl 2 _ rfl
        clear hb6 hba HG p0 p2
        go_wp2_with fail
        obtain ⟨W7, hW7⟩ : ∃ W, W = w6.alloc (.cells #[.int .i64 p.b, .int .i64 p.q, .int .i64 p.s] 45) := ⟨_, rfl⟩
        rw [← hW7] at B6 ⊢
        clear hW7 v0 v1 v2
        obtain ⟨tg, it, hit0, hSL⟩ := HITS.out W7 B6.out
        refine hSL.mono ?_
        rintro e w8 ⟨rfl, hb8⟩
        have B8 : Hid (Below w5.heap.size w5 w8) := Lib.hid (B6.out.trans (hb8.mono B6.out.size))
        clear hb8 hSL
        go_wp2_with fail
        refine (HOV1.out w8 B8.out).mono ?_
        rintro e w' ⟨rfl, rfl⟩
        obtain ⟨q, hq⟩ : ∃ q : Bool, q = decide (0 < rr) := ⟨_, rfl⟩
        have hq1 : decide (0 < rr) = q := hq.symm
        have hq2 : decide (0 ≤ kv) = q := by rw [← KVB.out]; exact hq.symm
        have hcell2 := (B8.out.cell (p := ⟨B.p, 2, none⟩) hpl).trans (L5.out.p.wo.c2)
        have HAL := Lib.hid (c_NtAll B.np (.slice an s5.nt.length cn) s5.nt w8 ((B8.out.cell (p := ⟨B.np, 0, none⟩) HNL.out).trans HNH.out) (Nat.lt_of_lt_of_le HNL.out B8.out.size) (HAR.out.below B8.out) (by omega))
        have hlen0 : 0 < s5.nt.length := by
          rcases Nat.eq_zero_or_pos s5.nt.length with h | h
          · exact absurd (List.eq_nil_of_length_eq_zero h) HNE.out
          · exact h
        obtain ⟨L, hL⟩ : ∃ L, L = s5.nt := ⟨_, rfl⟩
        rw [← hL] at HAL NK hlen0 hnl
        have hit1 : q = true → (it != 0) = false := fun h => by rw [h] at hq1; rw [hit0 (by simpa using hq1)]; rfl
        clear hq hL hit0
        cases q with
        | true =>
          have e1 := hit1 rfl
          clear hit1
          go_wp2_with fail
          refine HAL.out.mono ?_
          rintro e w9 ⟨⟨v', rfl, hnn⟩, hb9⟩
          have B9 : Hid (Below w5.heap.size w5 w9) := Lib.hid (B8.out.trans (hb9.mono B8.out.size))
          obtain ⟨ao, rfl⟩ := hnn.shape
          obtain ⟨Ab, ob, cb, heb, -, hmb, hltb, hxb⟩ := hnn.arr.open hlen0 (by omega)
          cases heb
          have HXB := Lib.hid hxb
          clear hnn hb9 hcell2 HAL hxb
          go_upto_region 29 with fail
          go_loopw [20] (fun jv wr => ∃ j : Nat, jv = .int .i64 j ∧ j ≤ L.length ∧ wr = w9) (fun jv _ => L.length - (intOf jv).toNat)
          case atStart => exact ⟨0, rfl, Nat.zero_le _, rfl⟩
          case round =>
            obtain ⟨j, rfl, hj, rfl⟩ := hrel
            by_cases hj2 : j < L.length
            · obtain ⟨nn, hnn⟩ : ∃ nn, nn = L[j] := ⟨_, rfl⟩
              have hk := NK.out nn (by rw [hnn]; exact List.getElem_mem _)
              have hc : ∀ t u, (ntc nn)[t]? = some u → wr.cell? ⟨Ab, ob + j * 8 + t, none⟩ = some u := fun t u hu => by
                have ht : t < 8 := (List.getElem?_eq_some_iff.1 hu).1
                have := HXB.out (j * 8 + t) u (by rw [rowOf_get ntc_len8 L j t hj2 ht, ← hnn]; exact hu)
                rw [show ob + j * 8 + t = ob + (j * 8 + t) by omega]
                exact this
              have c2 := hc 2 _ rfl
              have c7 := hc 7 _ rfl
              have hjb0 : (0 : Int) ≤ (j : Int) := by omega
              have hjb1 : (j : Int) < (L.length : Int) := by omega
              clear hnn hc
              by_cases hk8 : nn.kind = 8
              · have k1 : (nn.kind == 8) = true := by simp [hk8]
                have k2 : decide (2 * (A : Int) < nn.value) = false := decide_eq_false (by have := hk hk8; rw [← HA.out] at this; omega)
                clear hk hk8
                go_wp2_with fail
                go_roundw
                case rel => exact ⟨j + 1, by go_num, by omega, trivial⟩
                case measure => simp [intOf]; omega
              · have k1 : (nn.kind == 8) = false := by simp [hk8]
                clear hk hk8
                go_wp2_with fail
                go_roundw
                case rel => exact ⟨j + 1, by go_num, by omega, trivial⟩
                case measure => simp [intOf]; omega
            · have hjL : j = L.length := by omega
              subst hjL
              go_wp2_with fail
              refine (c_lives23 _).mono ?_
              rintro e w10 ⟨rfl, hb10⟩
              go_wp2_with fail
              go_ret
              exact ⟨rfl, HBL.out.trans ((B9.out.trans (hb10.mono B9.out.size)).mono HBL.out.size)⟩
        | false =>
          clear hit1
          go_wp2_with fail
          refine HAL.out.mono ?_
          rintro e w9 ⟨⟨v', rfl, hnn⟩, hb9⟩
          have B9 : Hid (Below w5.heap.size w5 w9) := Lib.hid (B8.out.trans (hb9.mono B8.out.size))
          obtain ⟨ao, rfl⟩ := hnn.shape
          obtain ⟨Ab, ob, cb, heb, -, hmb, hltb, hxb⟩ := hnn.arr.open hlen0 (by omega)
          cases heb
          have HXB := Lib.hid hxb
          clear hnn hb9 hcell2 HAL hxb
          go_upto_region 29 with fail
          go_loopw [20] (fun jv wr => ∃ j : Nat, jv = .int .i64 j ∧ j ≤ L.length ∧ wr = w9) (fun jv _ => L.length - (intOf jv).toNat)
          case atStart => exact ⟨0, rfl, Nat.zero_le _, rfl⟩
          case round =>
            obtain ⟨j, rfl, hj, rfl⟩ := hrel
            by_cases hj2 : j < L.length
            · obtain ⟨nn, hnn⟩ : ∃ nn, nn = L[j] := ⟨_, rfl⟩
              have hk := NK.out nn (by rw [hnn]; exact List.getElem_mem _)
              have hc : ∀ t u, (ntc nn)[t]? = some u → wr.cell? ⟨Ab, ob + j * 8 + t, none⟩ = some u := fun t u hu => by
                have ht : t < 8 := (List.getElem?_eq_some_iff.1 hu).1
                have := HXB.out (j * 8 + t) u (by rw [rowOf_get ntc_len8 L j t hj2 ht, ← hnn]; exact hu)
                rw [show ob + j * 8 + t = ob + (j * 8 + t) by omega]
                exact this
              have c2 := hc 2 _ rfl
              have c7 := hc 7 _ rfl
              have hjb0 : (0 : Int) ≤ (j : Int) := by omega
              have hjb1 : (j : Int) < (L.length : Int) := by omega
              clear hnn hc
              by_cases hk8 : nn.kind = 8
              · have k1 : (nn.kind == 8) = true := by simp [hk8]
                have k2 : decide (2 * (A : Int) < nn.value) = false := decide_eq_false (by have := hk hk8; rw [← HA.out] at this; omega)
                clear hk hk8
                go_wp2_with fail
                go_roundw
                case rel => exact ⟨j + 1, by go_num, by omega, trivial⟩
                case measure => simp [intOf]; omega
              · have k1 : (nn.kind == 8) = false := by simp [hk8]
                clear hk hk8
                go_wp2_with fail
                go_roundw
                case rel => exact ⟨j + 1, by go_num, by omega, trivial⟩
                case measure => simp [intOf]; omega
            · have hjL : j = L.length := by omega
              subst hjL
              go_wp2_with fail
              refine (c_lives23 _).mono ?_
              rintro e w10 ⟨rfl, hb10⟩
              go_wp2_with fail
              go_ret
              exact ⟨rfl, HBL.out.trans ((B9.out.trans (hb10.mono B9.out.size)).mono HBL.out.size)⟩
      · have dz : (z5.ln == 0) = false := by simp [hzl]
        by_cases hi3 : i < F.sp.length
        · have ds : decide ((i : Int) < (F.sp.length : Int)) = true := decide_eq_true (by omega)
          obtain ⟨Aq, oq, cq, hec, -, -, hltq, hxq⟩ := HSP.out.open (by omega) (by omega)
          cases hec
          obtain ⟨zs, hzs⟩ : ∃ zs, zs = F.sp[i] := ⟨_, rfl⟩
          have hr0 : (rowOf byArg F.sp)[i]? = (byArg zs)[0]? := by rw [hzs]; have := rowOf_get byArg_len F.sp i 0 hi3 (by omega); rw [Nat.mul_one] at this; exact this
          have w0 : w5.cell? ⟨Aq, oq + i, none⟩ = some (.int .u8 zs) := (L5.out.bel.cell (p := ⟨Aq, oq + i, none⟩) hltq).trans (hxq _ _ hr0)
          have hzb := HSB.out zs (by rw [hzs]; exact List.getElem_mem _)
          have hib0 : (0 : Int) ≤ (i : Int) := by omega
          have hib1 : (i : Int) < (F.sp.length : Int) := by omega
          clear hzs hr0 hxq hltq
          go_upto_region 17 with fail
          obtain ⟨tn, htn⟩ : ∃ tn, tn = zs % 7 := ⟨_, rfl⟩
          have htb : 0 ≤ tn ∧ tn ≤ 6 := by omega
          rw [← htn]
          clear htn w0 q5c
          by_cases hw0 : wl.length = 0
          · have dw : ((wl.length : Int) == 0) = true := by simp [hw0]
            clear hw0
            by_cases ht4 : tn % 4 = 0
            · have d4 : (tn % 4 == 0) = true := by simp [ht4]
              clear ht4
              have HST := c_EvStep L5.out.p E5.out.1 E5.out.2 (by decide) L5.out.hi I5.out.n0 (by omega)
              unfold EPost at HST
              have hhe := I5.out.ev HF.out hzl (by omega)
              have hno := evStep_n (s5, z5)
              have hok := evStep_ok L5.out.p.bd E5.out.2
              obtain ⟨y, hy⟩ : ∃ y, y = evStep (s5, z5) := ⟨_, rfl⟩
              rw [← hy] at HST hhe hno hok
              have HST := Lib.hid HST
              have HE6 := Lib.hid hhe
              have HK6 := Lib.hid hok
              have HT6 := Lib.hid (TT.out.more hhe.2)
              clear hy hhe hok
              go_wp2_with fail
              refine HST.out.mono ?_
              rintro e w6 ⟨rfl, G6, e6, P6, x6⟩
              have REL : Hid (∃ (i' nx' : Nat) (G : Om) (s : AW) (z : Evm) (T : Nat → Tc) (xs : Nat → Option Nat), Value.int .i64 ((i : Int) + 1) = .int .i64 i' ∧ Value.int .i64 nx = .int .i64 nx' ∧ i' ≤ 2000 ∧ nx' ≤ i' ∧ LW w w6 G B ⟨b, 8, 3, 1, 16⟩ s ∧ (EvAt w6 G 10 X z ∧ EvOk z) ∧ TsAt w6 G N xs T ∧ BxAt w6 G Q bv ∧ HrI b fr M0 s z T ∧ HrT i' (hrMu b z) ∧ s.n ≤ 1100 + i') :=
                Lib.hid ⟨i + 1, nx, G6, _, _, T5, xs5, by go_num, rfl, by omega, by omega, L5.out.to e6 P6, ⟨x6, HK6.out⟩, S5.out.ext e6 (by intro k; rcases k with k | k <;> omega) (fun j hj k => by rcases k with k | k <;> omega), Q5.out.ext e6 (by intro k; rcases k with k | k <;> omega), HE6.out.1, HT6.out, by omega⟩
              clear e6 P6 x6
              go_wp2_with fail
              go_roundw
              case rel => exact REL.out
              case measure => simp [intOf]; omega
            · have d4 : (tn % 4 == 0) = false := by simp [ht4]
              have HST := c_EvStep L5.out.p E5.out.1 E5.out.2 (by decide) L5.out.hi I5.out.n0 (by omega)
              unfold EPost at HST
              have hhe := I5.out.ev HF.out hzl (by omega)
              have hno := evStep_n (s5, z5)
              have hok := evStep_ok L5.out.p.bd E5.out.2
              obtain ⟨y, hy⟩ : ∃ y, y = evStep (s5, z5) := ⟨_, rfl⟩
              rw [← hy] at HST hhe hno hok
              have HST := Lib.hid HST
              have HE6 := Lib.hid hhe
              have HK6 := Lib.hid hok
              have HT6 := Lib.hid (TT.out.more hhe.2)
              clear hy hhe hok
              go_wp2_with fail
              refine HST.out.mono ?_
              rintro e w6 ⟨rfl, G6, e6, P6, x6⟩
              have REL : Hid (∃ (i' nx' : Nat) (G : Om) (s : AW) (z : Evm) (T : Nat → Tc) (xs : Nat → Option Nat), Value.int .i64 ((i : Int) + 1) = .int .i64 i' ∧ Value.int .i64 nx = .int .i64 nx' ∧ i' ≤ 2000 ∧ nx' ≤ i' ∧ LW w w6 G B ⟨b, 8, 3, 1, 16⟩ s ∧ (EvAt w6 G 10 X z ∧ EvOk z) ∧ TsAt w6 G N xs T ∧ BxAt w6 G Q bv ∧ HrI b fr M0 s z T ∧ HrT i' (hrMu b z) ∧ s.n ≤ 1100 + i') :=
                Lib.hid ⟨i + 1, nx, G6, _, _, T5, xs5, by go_num, rfl, by omega, by omega, L5.out.to e6 P6, ⟨x6, HK6.out⟩, S5.out.ext e6 (by intro k; rcases k with k | k <;> omega) (fun j hj k => by rcases k with k | k <;> omega), Q5.out.ext e6 (by intro k; rcases k with k | k <;> omega), HE6.out.1, HT6.out, by omega⟩
              clear e6 P6 x6
              go_wp2_with fail
              go_roundw
              case rel => exact REL.out
              case measure => simp [intOf]; omega
          · have dw : ((wl.length : Int) == 0) = false := beq_false_of_ne (by omega)
            by_cases ht4 : tn % 4 = 0
            · have d4 : (tn % 4 == 0) = true := by simp [ht4]
              clear ht4
              have HST := c_EvStep L5.out.p E5.out.1 E5.out.2 (by decide) L5.out.hi I5.out.n0 (by omega)
              unfold EPost at HST
              have hhe := I5.out.ev HF.out hzl (by omega)
              have hno := evStep_n (s5, z5)
              have hok := evStep_ok L5.out.p.bd E5.out.2
              obtain ⟨y, hy⟩ : ∃ y, y = evStep (s5, z5) := ⟨_, rfl⟩
              rw [← hy] at HST hhe hno hok
              have HST := Lib.hid HST
              have HE6 := Lib.hid hhe
              have HK6 := Lib.hid hok
              have HT6 := Lib.hid (TT.out.more hhe.2)
              clear hy hhe hok
              go_wp2_with fail
              refine HST.out.mono ?_
              rintro e w6 ⟨rfl, G6, e6, P6, x6⟩
              have REL : Hid (∃ (i' nx' : Nat) (G : Om) (s : AW) (z : Evm) (T : Nat → Tc) (xs : Nat → Option Nat), Value.int .i64 ((i : Int) + 1) = .int .i64 i' ∧ Value.int .i64 nx = .int .i64 nx' ∧ i' ≤ 2000 ∧ nx' ≤ i' ∧ LW w w6 G B ⟨b, 8, 3, 1, 16⟩ s ∧ (EvAt w6 G 10 X z ∧ EvOk z) ∧ TsAt w6 G N xs T ∧ BxAt w6 G Q bv ∧ HrI b fr M0 s z T ∧ HrT i' (hrMu b z) ∧ s.n ≤ 1100 + i') :=
                Lib.hid ⟨i + 1, nx, G6, _, _, T5, xs5, by go_num, rfl, by omega, by omega, L5.out.to e6 P6, ⟨x6, HK6.out⟩, S5.out.ext e6 (by intro k; rcases k with k | k <;> omega) (fun j hj k => by rcases k with k | k <;> omega), Q5.out.ext e6 (by intro k; rcases k with k | k <;> omega), HE6.out.1, HT6.out, by omega⟩
              clear e6 P6 x6
              go_wp2_with fail
              go_roundw
              case rel => exact REL.out
              case measure => simp [intOf]; omega
            · have d4 : (tn % 4 == 0) = false := by simp [ht4]
              obtain ⟨ix, hix⟩ : ∃ ix : Nat, (ix : Int) = tn - 1 := ⟨(tn - 1).toNat, by omega⟩
              have hix6 : ix < 6 := by omega
              have hix0 : (0 : Int) ≤ (ix : Int) := by omega
              have hix1 : (ix : Int) < 6 := by omega
              have hix2 : tn - 1 = (ix : Int) := hix.symm
              clear hix
              have n0 := S5.out.ob.c ix _ (tsC_get hix6)
              have nf := S5.out.ob.f ix
              have SAME : Hid (HrT (i + 1) (hrMu b z5)) := Lib.hid (TT.out.same (.inl (by omega)))
              have hts := S5.out.ts ix hix6
              by_cases hov : ∃ bt, xs5 ix = some bt ∧ (T5 ix).at_ ≠ 0
              · obtain ⟨bt, hbt, hat⟩ := hov
                obtain ⟨hT, hg, hok⟩ : TAt w5 bt (T5 ix) ∧ G5 bt = 61 + ix ∧ (T5 ix).ok := by
                  rcases hts with ⟨h, -⟩ | ⟨b2, h1, h2, h3, h4⟩
                  · rw [hbt] at h; cases h
                  · rw [hbt] at h1; cases h1; exact ⟨h2, h3, h4⟩
                rw [hbt] at n0
                have HOV := c_Over bt _ _ hT
                have hof : tcOver (T5 ix) = false := decide_eq_false hat
                rw [hof] at HOV
                have HOV := Lib.hid HOV
                have HST := Lib.hid (c_PTStep (61 + ix) L5.out.p hT hg hok (by omega) L5.out.hi I5.out.n0 (by omega))
                have HOK := Lib.hid (tcStep_ok (z := ⟨s5.M, s5.n, s5.la, T5 ix⟩) hok L5.out.p.bd)
                have HTC := Lib.hid (I5.out.touch HF.out ix hat (by omega) (s' := awOf (tcStep ⟨s5.M, s5.n, s5.la, T5 ix⟩) s5) rfl rfl rfl)
                have hno := tcStep_n ⟨s5.M, s5.n, s5.la, T5 ix⟩
                dsimp only at hno
                have HBT := Lib.hid hbt
                clear hts hat hT hg hok hof hbt
                go_wp2_with fail
                refine HOV.out.mono ?_
                rintro e w' ⟨rfl, rfl⟩
                go_wp2_with fail
                refine HST.out.mono ?_
                rintro e w6 ⟨rfl, G6, e6, P6, x6, g6⟩
                have REL : Hid (∃ (i' nx' : Nat) (G : Om) (s : AW) (z : Evm) (T : Nat → Tc) (xs : Nat → Option Nat), Value.int .i64 ((i : Int) + 1) = .int .i64 i' ∧ Value.int .i64 nx = .int .i64 nx' ∧ i' ≤ 2000 ∧ nx' ≤ i' ∧ LW w w6 G B ⟨b, 8, 3, 1, 16⟩ s ∧ (EvAt w6 G 10 X z ∧ EvOk z) ∧ TsAt w6 G N xs T ∧ BxAt w6 G Q bv ∧ HrI b fr M0 s z T ∧ HrT i' (hrMu b z) ∧ s.n ≤ 1100 + i') :=
                  Lib.hid ⟨i + 1, nx, G6, _, z5, _, xs5, by go_num, rfl, by omega, by omega, L5.out.to e6 P6, ⟨E5.out.1.ext e6 (fun t h1 h2 k => by rcases k with k | k <;> omega), E5.out.2⟩, S5.out.step hix6 HBT.out e6 x6 g6 HOK.out, Q5.out.ext e6 (by intro k; rcases k with k | k <;> omega), HTC.out, SAME.out, by show (tcStep _).n ≤ _; omega⟩
                clear e6 P6 x6
                go_wp2_with fail
                go_roundw
                case rel => exact REL.out
                case measure => simp [intOf]; omega
              · obtain ⟨qx, hqx⟩ : ∃ qx : Nat, qx = nx % wl.length := ⟨_, rfl⟩
                have hqw : qx < wl.length := by rw [hqx]; exact Nat.mod_lt _ (by omega)
                have hqe : (nx : Int) % (wl.length : Int) = (qx : Int) := by rw [hqx]; omega
                clear hqx
                obtain ⟨Aq, oq, cq, hec, -, -, hltq, hxq⟩ := HCW.out.open (by omega) (by omega)
                cases hec
                obtain ⟨zw, hzw⟩ : ∃ zw, zw = wl[qx] := ⟨_, rfl⟩
                have hr0 : (rowOf byArg wl)[qx]? = (byArg zw)[0]? := by rw [hzw]; have := rowOf_get byArg_len wl qx 0 hqw (by omega); rw [Nat.mul_one] at this; exact this
                have w0 : w5.cell? ⟨Aq, oq + qx, none⟩ = some (.int .u8 zw) := (L5.out.bel.cell (p := ⟨Aq, oq + qx, none⟩) hltq).trans (hxq _ _ hr0)
                have hzb := HWL.out zw (by rw [hzw]; exact List.getElem_mem _)
                have hqb0 : (0 : Int) ≤ (qx : Int) := by omega
                have hqb1 : (qx : Int) < (wl.length : Int) := by omega
                have HNT := Lib.hid (c_PNewT (1 + zw % 40) (61 + ix) L5.out.hi (by omega) (by omega))
                have HTN := Lib.hid (I5.out.new HF.out ix (1 + zw % 40) (by omega))
                have HNK := Lib.hid (tcNew_ok (1 + zw % 40) (by omega) (by omega))
                have hno := tcStep_n ⟨s5.M, s5.n, s5.la, tcNew (plRef (1 + zw % 40))⟩
                dsimp only at hno
                have hnew : (setT T5 ix (tcNew (plRef (1 + zw % 40)))) ix = tcNew (plRef (1 + zw % 40)) := by unfold setT; rw [if_pos rfl]
                have hap : (tcNew (plRef (1 + zw % 40))).at_ ≠ 0 := by have := plRef_bd (r := 1 + zw % 40) (by omega); show plRef _ ≠ 0; omega
                have HTC0 := HTN.out.touch HF.out ix (by rw [hnew]; exact hap) (by omega) (s' := awOf (tcStep ⟨s5.M, s5.n, s5.la, tcNew (plRef (1 + zw % 40))⟩) s5) (by rw [hnew]; rfl) (by rw [hnew]; rfl) rfl
                rw [hnew] at HTC0
                have HTC := Lib.hid HTC0
                have NF := Lib.hid nf
                have HTS := Lib.hid hts
                have HNO : Hid (∀ bt, xs5 ix = some bt → (T5 ix).at_ = 0) := Lib.hid fun bt hb => by
                  by_cases c : (T5 ix).at_ = 0
                  · exact c
                  · exact absurd ⟨bt, hb, c⟩ hov
                clear hzw hr0 hxq hov hnew hap HTC0 hts hltq
                obtain ⟨xo, hxo⟩ : ∃ xo, xo = xs5 ix := ⟨_, rfl⟩
                rw [← hxo] at n0
                have HXO := Lib.hid hxo
                clear hxo
                cases xo with
                | none =>
                  go_wp2_with fail
                  refine HNT.out.mono ?_
                  rintro e w6 ⟨rfl, G6, e6, t6, g6⟩
                  obtain ⟨bn, hbn⟩ : ∃ bn, bn = w5.heap.size := ⟨_, rfl⟩
                  rw [← hbn] at t6 g6 ⊢
                  have S6a := S5.out.new hix6 e6 t6 g6 HNK.out
                  have e7 : Ext (fun t => t = 60) G6 w6 G6 (w6.setCell ⟨N, ix, none⟩ (.pointer (some ⟨bn, 0, none⟩))) := Ext.of_set (S := fun t => t = 60) e6.hi ((e6.lo _ S5.out.ob.lt).trans S5.out.ob.o) (show (60 : Nat) ≠ 0 by decide) rfl
                  have L6 := (L5.out.ext e6 (by omega) (by omega) (by omega) (by omega)).ext e7 (by decide) (by decide) (by decide) (by decide)
                  have E6 : EvAt (w6.setCell ⟨N, ix, none⟩ (.pointer (some ⟨bn, 0, none⟩))) G6 10 X z5 := (E5.out.1.ext e6 (fun t h1 h2 k => by omega)).ext e7 (fun t h1 h2 k => by omega)
                  have Q6 := (Q5.out.ext e6 (by omega)).ext e7 (by decide)
                  have nf6 := (e6.frozen (p := ⟨N, ix, none⟩) S5.out.ob.lt (by rw [S5.out.ob.o]; omega)).trans NF.out
                  have nc6 := (e6.cell (p := ⟨N, ix, none⟩) S5.out.ob.lt (by rw [S5.out.ob.o]; omega)).trans (S5.out.ob.c ix _ (tsC_get hix6))
                  have t7 : TAt (w6.setCell ⟨N, ix, none⟩ (.pointer (some ⟨bn, 0, none⟩))) bn (tcNew (plRef (1 + zw % 40))) := t6.ext e7 (by rw [g6]; omega)
                  have HST := Lib.hid (c_PTStep (61 + ix) L6.p t7 g6 HNK.out (by omega) L6.hi I5.out.n0 (by omega))
                  have HOK := Lib.hid (tcStep_ok (z := ⟨s5.M, s5.n, s5.la, tcNew (plRef (1 + zw % 40))⟩) HNK.out L6.p.bd)
                  have S6 := Lib.hid S6a
                  have L6 := Lib.hid L6
                  have E6 := Lib.hid E6
                  have Q6 := Lib.hid Q6
                  clear hbn t6 S6a e6 e7 t7 n0 nf
                  go_upto_region 21 with fail
                  obtain ⟨W7, hW7⟩ : ∃ W, W = w6.setCell ⟨N, ix, none⟩ (.pointer (some ⟨bn, 0, none⟩)) := ⟨_, rfl⟩
                  rw [← hW7] at S6 L6 E6 Q6 HST ⊢
                  clear hW7 nf6 nc6
                  have n0 := S6.out.ob.c ix _ (tsC_get hix6)
                  have hsx : setX xs5 ix bn ix = some bn := by unfold setX; rw [if_pos rfl]
                  rw [hsx] at n0
                  have HSX := Lib.hid hsx
                  clear hsx
                  go_wp2_with fail
                  refine HST.out.mono ?_
                  rintro e w8 ⟨rfl, G8, e8, P8, t8, g8⟩
                  have REL : Hid (∃ (i' nx' : Nat) (G : Om) (s : AW) (z : Evm) (T : Nat → Tc) (xs : Nat → Option Nat), Value.int .i64 ((i : Int) + 1) = .int .i64 i' ∧ Value.int .i64 ((nx : Int) + 1) = .int .i64 nx' ∧ i' ≤ 2000 ∧ nx' ≤ i' ∧ LW w w8 G B ⟨b, 8, 3, 1, 16⟩ s ∧ (EvAt w8 G 10 X z ∧ EvOk z) ∧ TsAt w8 G N xs T ∧ BxAt w8 G Q bv ∧ HrI b fr M0 s z T ∧ HrT i' (hrMu b z) ∧ s.n ≤ 1100 + i') :=
                    Lib.hid ⟨i + 1, nx + 1, G8, _, z5, _, _, by go_num, by go_num, by omega, by omega, L6.out.to e8 P8, ⟨E6.out.ext e8 (fun t h1 h2 k => by rcases k with k | k <;> omega), E5.out.2⟩, S6.out.step hix6 HSX.out e8 t8 g8 HOK.out, Q6.out.ext e8 (by intro k; rcases k with k | k <;> omega), HTC.out, SAME.out, by show (tcStep _).n ≤ _; omega⟩
                  clear e8 P8 t8 g8
                  go_wp2_with fail
                  go_roundw
                  case rel => exact REL.out
                  case measure => simp [intOf]; omega
                | some bt =>
                  obtain ⟨hT, hat⟩ : TAt w5 bt (T5 ix) ∧ (T5 ix).at_ = 0 := by
                    have h0 := HNO.out bt HXO.out.symm
                    rcases HTS.out with ⟨h, -⟩ | ⟨b2, h1, h2, h3, h4⟩
                    · rw [← HXO.out] at h; cases h
                    · rw [← HXO.out] at h1; cases h1; exact ⟨h2, h0⟩
                  have HOV := c_Over bt _ _ hT
                  have hof : tcOver (T5 ix) = true := decide_eq_true hat
                  rw [hof] at HOV
                  have HOV := Lib.hid HOV
                  clear hT hat hof
                  go_wp2_with fail
                  refine HOV.out.mono ?_
                  rintro e w' ⟨rfl, rfl⟩
                  go_wp2_with fail
                  refine HNT.out.mono ?_
                  rintro e w6 ⟨rfl, G6, e6, t6, g6⟩
                  obtain ⟨bn, hbn⟩ : ∃ bn, bn = w5.heap.size := ⟨_, rfl⟩
                  rw [← hbn] at t6 g6 ⊢
                  have S6a := S5.out.new hix6 e6 t6 g6 HNK.out
                  have e7 : Ext (fun t => t = 60) G6 w6 G6 (w6.setCell ⟨N, ix, none⟩ (.pointer (some ⟨bn, 0, none⟩))) := Ext.of_set (S := fun t => t = 60) e6.hi ((e6.lo _ S5.out.ob.lt).trans S5.out.ob.o) (show (60 : Nat) ≠ 0 by decide) rfl
                  have L6 := (L5.out.ext e6 (by omega) (by omega) (by omega) (by omega)).ext e7 (by decide) (by decide) (by decide) (by decide)
                  have E6 : EvAt (w6.setCell ⟨N, ix, none⟩ (.pointer (some ⟨bn, 0, none⟩))) G6 10 X z5 := (E5.out.1.ext e6 (fun t h1 h2 k => by omega)).ext e7 (fun t h1 h2 k => by omega)
                  have Q6 := (Q5.out.ext e6 (by omega)).ext e7 (by decide)
                  have nf6 := (e6.frozen (p := ⟨N, ix, none⟩) S5.out.ob.lt (by rw [S5.out.ob.o]; omega)).trans NF.out
                  have nc6 := (e6.cell (p := ⟨N, ix, none⟩) S5.out.ob.lt (by rw [S5.out.ob.o]; omega)).trans (S5.out.ob.c ix _ (tsC_get hix6))
                  have t7 : TAt (w6.setCell ⟨N, ix, none⟩ (.pointer (some ⟨bn, 0, none⟩))) bn (tcNew (plRef (1 + zw % 40))) := t6.ext e7 (by rw [g6]; omega)
                  have HST := Lib.hid (c_PTStep (61 + ix) L6.p t7 g6 HNK.out (by omega) L6.hi I5.out.n0 (by omega))
                  have HOK := Lib.hid (tcStep_ok (z := ⟨s5.M, s5.n, s5.la, tcNew (plRef (1 + zw % 40))⟩) HNK.out L6.p.bd)
                  have S6 := Lib.hid S6a
                  have L6 := Lib.hid L6
                  have E6 := Lib.hid E6
                  have Q6 := Lib.hid Q6
                  clear hbn t6 S6a e6 e7 t7 n0 nf
                  go_upto_region 21 with fail
                  obtain ⟨W7, hW7⟩ : ∃ W, W = w6.setCell ⟨N, ix, none⟩ (.pointer (some ⟨bn, 0, none⟩)) := ⟨_, rfl⟩
                  rw [← hW7] at S6 L6 E6 Q6 HST ⊢
                  clear hW7 nf6 nc6
                  have n0 := S6.out.ob.c ix _ (tsC_get hix6)
                  have hsx : setX xs5 ix bn ix = some bn := by unfold setX; rw [if_pos rfl]
                  rw [hsx] at n0
                  have HSX := Lib.hid hsx
                  clear hsx
                  go_wp2_with fail
                  refine HST.out.mono ?_
                  rintro e w8 ⟨rfl, G8, e8, P8, t8, g8⟩
                  have REL : Hid (∃ (i' nx' : Nat) (G : Om) (s : AW) (z : Evm) (T : Nat → Tc) (xs : Nat → Option Nat), Value.int .i64 ((i : Int) + 1) = .int .i64 i' ∧ Value.int .i64 ((nx : Int) + 1) = .int .i64 nx' ∧ i' ≤ 2000 ∧ nx' ≤ i' ∧ LW w w8 G B ⟨b, 8, 3, 1, 16⟩ s ∧ (EvAt w8 G 10 X z ∧ EvOk z) ∧ TsAt w8 G N xs T ∧ BxAt w8 G Q bv ∧ HrI b fr M0 s z T ∧ HrT i' (hrMu b z) ∧ s.n ≤ 1100 + i') :=
                    Lib.hid ⟨i + 1, nx + 1, G8, _, z5, _, _, by go_num, by go_num, by omega, by omega, L6.out.to e8 P8, ⟨E6.out.ext e8 (fun t h1 h2 k => by rcases k with k | k <;> omega), E5.out.2⟩, S6.out.step hix6 HSX.out e8 t8 g8 HOK.out, Q6.out.ext e8 (by intro k; rcases k with k | k <;> omega), HTC.out, SAME.out, by show (tcStep _).n ≤ _; omega⟩
                  clear e8 P8 t8 g8
                  go_wp2_with fail
                  go_roundw
                  case rel => exact REL.out
                  case measure => simp [intOf]; omega
        · have ds : decide ((i : Int) < (F.sp.length : Int)) = false := decide_eq_false (by omega)
          go_upto_region 17 with fail
          obtain ⟨tn, htn⟩ : ∃ tn, tn = (i : Int) % 4 := ⟨_, rfl⟩
          have htb : 0 ≤ tn ∧ tn ≤ 6 := by omega
          have HTN4 := Lib.hid htn
          rw [← htn]
          clear htn q5c
          by_cases hw0 : wl.length = 0
          · have dw : ((wl.length : Int) == 0) = true := by simp [hw0]
            clear hw0
            by_cases ht4 : tn % 4 = 0
            · have d4 : (tn % 4 == 0) = true := by simp [ht4]
              clear ht4
              have HST := c_EvStep L5.out.p E5.out.1 E5.out.2 (by decide) L5.out.hi I5.out.n0 (by omega)
              unfold EPost at HST
              have hhe := I5.out.ev HF.out hzl (by omega)
              have hno := evStep_n (s5, z5)
              have hok := evStep_ok L5.out.p.bd E5.out.2
              obtain ⟨y, hy⟩ : ∃ y, y = evStep (s5, z5) := ⟨_, rfl⟩
              rw [← hy] at HST hhe hno hok
              have HST := Lib.hid HST
              have HE6 := Lib.hid hhe
              have HK6 := Lib.hid hok
              have HT6 := Lib.hid (TT.out.more hhe.2)
              clear hy hhe hok
              go_wp2_with fail
              refine HST.out.mono ?_
              rintro e w6 ⟨rfl, G6, e6, P6, x6⟩
              have REL : Hid (∃ (i' nx' : Nat) (G : Om) (s : AW) (z : Evm) (T : Nat → Tc) (xs : Nat → Option Nat), Value.int .i64 ((i : Int) + 1) = .int .i64 i' ∧ Value.int .i64 nx = .int .i64 nx' ∧ i' ≤ 2000 ∧ nx' ≤ i' ∧ LW w w6 G B ⟨b, 8, 3, 1, 16⟩ s ∧ (EvAt w6 G 10 X z ∧ EvOk z) ∧ TsAt w6 G N xs T ∧ BxAt w6 G Q bv ∧ HrI b fr M0 s z T ∧ HrT i' (hrMu b z) ∧ s.n ≤ 1100 + i') :=
                Lib.hid ⟨i + 1, nx, G6, _, _, T5, xs5, by go_num, rfl, by omega, by omega, L5.out.to e6 P6, ⟨x6, HK6.out⟩, S5.out.ext e6 (by intro k; rcases k with k | k <;> omega) (fun j hj k => by rcases k with k | k <;> omega), Q5.out.ext e6 (by intro k; rcases k with k | k <;> omega), HE6.out.1, HT6.out, by omega⟩
              clear e6 P6 x6
              go_wp2_with fail
              go_roundw
              case rel => exact REL.out
              case measure => simp [intOf]; omega
            · have d4 : (tn % 4 == 0) = false := by simp [ht4]
              have HST := c_EvStep L5.out.p E5.out.1 E5.out.2 (by decide) L5.out.hi I5.out.n0 (by omega)
              unfold EPost at HST
              have hhe := I5.out.ev HF.out hzl (by omega)
              have hno := evStep_n (s5, z5)
              have hok := evStep_ok L5.out.p.bd E5.out.2
              obtain ⟨y, hy⟩ : ∃ y, y = evStep (s5, z5) := ⟨_, rfl⟩
              rw [← hy] at HST hhe hno hok
              have HST := Lib.hid HST
              have HE6 := Lib.hid hhe
              have HK6 := Lib.hid hok
              have HT6 := Lib.hid (TT.out.more hhe.2)
              clear hy hhe hok
              go_wp2_with fail
              refine HST.out.mono ?_
              rintro e w6 ⟨rfl, G6, e6, P6, x6⟩
              have REL : Hid (∃ (i' nx' : Nat) (G : Om) (s : AW) (z : Evm) (T : Nat → Tc) (xs : Nat → Option Nat), Value.int .i64 ((i : Int) + 1) = .int .i64 i' ∧ Value.int .i64 nx = .int .i64 nx' ∧ i' ≤ 2000 ∧ nx' ≤ i' ∧ LW w w6 G B ⟨b, 8, 3, 1, 16⟩ s ∧ (EvAt w6 G 10 X z ∧ EvOk z) ∧ TsAt w6 G N xs T ∧ BxAt w6 G Q bv ∧ HrI b fr M0 s z T ∧ HrT i' (hrMu b z) ∧ s.n ≤ 1100 + i') :=
                Lib.hid ⟨i + 1, nx, G6, _, _, T5, xs5, by go_num, rfl, by omega, by omega, L5.out.to e6 P6, ⟨x6, HK6.out⟩, S5.out.ext e6 (by intro k; rcases k with k | k <;> omega) (fun j hj k => by rcases k with k | k <;> omega), Q5.out.ext e6 (by intro k; rcases k with k | k <;> omega), HE6.out.1, HT6.out, by omega⟩
              clear e6 P6 x6
              go_wp2_with fail
              go_roundw
              case rel => exact REL.out
              case measure => simp [intOf]; omega
          · have dw : ((wl.length : Int) == 0) = false := beq_false_of_ne (by omega)
            by_cases ht4 : tn % 4 = 0
            · have d4 : (tn % 4 == 0) = true := by simp [ht4]
              clear ht4
              have HST := c_EvStep L5.out.p E5.out.1 E5.out.2 (by decide) L5.out.hi I5.out.n0 (by omega)
              unfold EPost at HST
              have hhe := I5.out.ev HF.out hzl (by omega)
              have hno := evStep_n (s5, z5)
              have hok := evStep_ok L5.out.p.bd E5.out.2
              obtain ⟨y, hy⟩ : ∃ y, y = evStep (s5, z5) := ⟨_, rfl⟩
              rw [← hy] at HST hhe hno hok
              have HST := Lib.hid HST
              have HE6 := Lib.hid hhe
              have HK6 := Lib.hid hok
              have HT6 := Lib.hid (TT.out.more hhe.2)
              clear hy hhe hok
              go_wp2_with fail
              refine HST.out.mono ?_
              rintro e w6 ⟨rfl, G6, e6, P6, x6⟩
              have REL : Hid (∃ (i' nx' : Nat) (G : Om) (s : AW) (z : Evm) (T : Nat → Tc) (xs : Nat → Option Nat), Value.int .i64 ((i : Int) + 1) = .int .i64 i' ∧ Value.int .i64 nx = .int .i64 nx' ∧ i' ≤ 2000 ∧ nx' ≤ i' ∧ LW w w6 G B ⟨b, 8, 3, 1, 16⟩ s ∧ (EvAt w6 G 10 X z ∧ EvOk z) ∧ TsAt w6 G N xs T ∧ BxAt w6 G Q bv ∧ HrI b fr M0 s z T ∧ HrT i' (hrMu b z) ∧ s.n ≤ 1100 + i') :=
                Lib.hid ⟨i + 1, nx, G6, _, _, T5, xs5, by go_num, rfl, by omega, by omega, L5.out.to e6 P6, ⟨x6, HK6.out⟩, S5.out.ext e6 (by intro k; rcases k with k | k <;> omega) (fun j hj k => by rcases k with k | k <;> omega), Q5.out.ext e6 (by intro k; rcases k with k | k <;> omega), HE6.out.1, HT6.out, by omega⟩
              clear e6 P6 x6
              go_wp2_with fail
              go_roundw
              case rel => exact REL.out
              case measure => simp [intOf]; omega
            · have d4 : (tn % 4 == 0) = false := by simp [ht4]
              obtain ⟨ix, hix⟩ : ∃ ix : Nat, (ix : Int) = tn - 1 := ⟨(tn - 1).toNat, by omega⟩
              have hix6 : ix < 6 := by omega
              have hix0 : (0 : Int) ≤ (ix : Int) := by omega
              have hix1 : (ix : Int) < 6 := by omega
              have hix2 : tn - 1 = (ix : Int) := hix.symm
              clear hix
              have n0 := S5.out.ob.c ix _ (tsC_get hix6)
              have nf := S5.out.ob.f ix
              have SAME : Hid (HrT (i + 1) (hrMu b z5)) := Lib.hid (TT.out.same (.inr (by have := HTN4.out; omega)))
              have hts := S5.out.ts ix hix6
              by_cases hov : ∃ bt, xs5 ix = some bt ∧ (T5 ix).at_ ≠ 0
              · obtain ⟨bt, hbt, hat⟩ := hov
                obtain ⟨hT, hg, hok⟩ : TAt w5 bt (T5 ix) ∧ G5 bt = 61 + ix ∧ (T5 ix).ok := by
                  rcases hts with ⟨h, -⟩ | ⟨b2, h1, h2, h3, h4⟩
                  · rw [hbt] at h; cases h
                  · rw [hbt] at h1; cases h1; exact ⟨h2, h3, h4⟩
                rw [hbt] at n0
                have HOV := c_Over bt _ _ hT
                have hof : tcOver (T5 ix) = false := decide_eq_false hat
                rw [hof] at HOV
                have HOV := Lib.hid HOV
                have HST := Lib.hid (c_PTStep (61 + ix) L5.out.p hT hg hok (by omega) L5.out.hi I5.out.n0 (by omega))
                have HOK := Lib.hid (tcStep_ok (z := ⟨s5.M, s5.n, s5.la, T5 ix⟩) hok L5.out.p.bd)
                have HTC := Lib.hid (I5.out.touch HF.out ix hat (by omega) (s' := awOf (tcStep ⟨s5.M, s5.n, s5.la, T5 ix⟩) s5) rfl rfl rfl)
                have hno := tcStep_n ⟨s5.M, s5.n, s5.la, T5 ix⟩
                dsimp only at hno
                have HBT := Lib.hid hbt
                clear hts hat hT hg hok hof hbt
                go_wp2_with fail
                refine HOV.out.mono ?_
                rintro e w' ⟨rfl, rfl⟩
                go_wp2_with fail
                refine HST.out.mono ?_
                rintro e w6 ⟨rfl, G6, e6, P6, x6, g6⟩
                have REL : Hid (∃ (i' nx' : Nat) (G : Om) (s : AW) (z : Evm) (T : Nat → Tc) (xs : Nat → Option Nat), Value.int .i64 ((i : Int) + 1) = .int .i64 i' ∧ Value.int .i64 nx = .int .i64 nx' ∧ i' ≤ 2000 ∧ nx' ≤ i' ∧ LW w w6 G B ⟨b, 8, 3, 1, 16⟩ s ∧ (EvAt w6 G 10 X z ∧ EvOk z) ∧ TsAt w6 G N xs T ∧ BxAt w6 G Q bv ∧ HrI b fr M0 s z T ∧ HrT i' (hrMu b z) ∧ s.n ≤ 1100 + i') :=
                  Lib.hid ⟨i + 1, nx, G6, _, z5, _, xs5, by go_num, rfl, by omega, by omega, L5.out.to e6 P6, ⟨E5.out.1.ext e6 (fun t h1 h2 k => by rcases k with k | k <;> omega), E5.out.2⟩, S5.out.step hix6 HBT.out e6 x6 g6 HOK.out, Q5.out.ext e6 (by intro k; rcases k with k | k <;> omega), HTC.out, SAME.out, by show (tcStep _).n ≤ _; omega⟩
                clear e6 P6 x6
                go_wp2_with fail
                go_roundw
                case rel => exact REL.out
                case measure => simp [intOf]; omega
              · obtain ⟨qx, hqx⟩ : ∃ qx : Nat, qx = nx % wl.length := ⟨_, rfl⟩
                have hqw : qx < wl.length := by rw [hqx]; exact Nat.mod_lt _ (by omega)
                have hqe : (nx : Int) % (wl.length : Int) = (qx : Int) := by rw [hqx]; omega
                clear hqx
                obtain ⟨Aq, oq, cq, hec, -, -, hltq, hxq⟩ := HCW.out.open (by omega) (by omega)
                cases hec
                obtain ⟨zw, hzw⟩ : ∃ zw, zw = wl[qx] := ⟨_, rfl⟩
                have hr0 : (rowOf byArg wl)[qx]? = (byArg zw)[0]? := by rw [hzw]; have := rowOf_get byArg_len wl qx 0 hqw (by omega); rw [Nat.mul_one] at this; exact this
                have w0 : w5.cell? ⟨Aq, oq + qx, none⟩ = some (.int .u8 zw) := (L5.out.bel.cell (p := ⟨Aq, oq + qx, none⟩) hltq).trans (hxq _ _ hr0)
                have hzb := HWL.out zw (by rw [hzw]; exact List.getElem_mem _)
                have hqb0 : (0 : Int) ≤ (qx : Int) := by omega
                have hqb1 : (qx : Int) < (wl.length : Int) := by omega
                have HNT := Lib.hid (c_PNewT (1 + zw % 40) (61 + ix) L5.out.hi (by omega) (by omega))
                have HTN := Lib.hid (I5.out.new HF.out ix (1 + zw % 40) (by omega))
                have HNK := Lib.hid (tcNew_ok (1 + zw % 40) (by omega) (by omega))
                have hno := tcStep_n ⟨s5.M, s5.n, s5.la, tcNew (plRef (1 + zw % 40))⟩
                dsimp only at hno
                have hnew : (setT T5 ix (tcNew (plRef (1 + zw % 40)))) ix = tcNew (plRef (1 + zw % 40)) := by unfold setT; rw [if_pos rfl]
                have hap : (tcNew (plRef (1 + zw % 40))).at_ ≠ 0 := by have := plRef_bd (r := 1 + zw % 40) (by omega); show plRef _ ≠ 0; omega
                have HTC0 := HTN.out.touch HF.out ix (by rw [hnew]; exact hap) (by omega) (s' := awOf (tcStep ⟨s5.M, s5.n, s5.la, tcNew (plRef (1 + zw % 40))⟩) s5) (by rw [hnew]; rfl) (by rw [hnew]; rfl) rfl
                rw [hnew] at HTC0
                have HTC := Lib.hid HTC0
                have NF := Lib.hid nf
                have HTS := Lib.hid hts
                have HNO : Hid (∀ bt, xs5 ix = some bt → (T5 ix).at_ = 0) := Lib.hid fun bt hb => by
                  by_cases c : (T5 ix).at_ = 0
                  · exact c
                  · exact absurd ⟨bt, hb, c⟩ hov
                clear hzw hr0 hxq hov hnew hap HTC0 hts hltq
                obtain ⟨xo, hxo⟩ : ∃ xo, xo = xs5 ix := ⟨_, rfl⟩
                rw [← hxo] at n0
                have HXO := Lib.hid hxo
                clear hxo
                cases xo with
                | none =>
                  go_wp2_with fail
                  refine HNT.out.mono ?_
                  rintro e w6 ⟨rfl, G6, e6, t6, g6⟩
                  obtain ⟨bn, hbn⟩ : ∃ bn, bn = w5.heap.size := ⟨_, rfl⟩
                  rw [← hbn] at t6 g6 ⊢
                  have S6a := S5.out.new hix6 e6 t6 g6 HNK.out
                  have e7 : Ext (fun t => t = 60) G6 w6 G6 (w6.setCell ⟨N, ix, none⟩ (.pointer (some ⟨bn, 0, none⟩))) := Ext.of_set (S := fun t => t = 60) e6.hi ((e6.lo _ S5.out.ob.lt).trans S5.out.ob.o) (show (60 : Nat) ≠ 0 by decide) rfl
                  have L6 := (L5.out.ext e6 (by omega) (by omega) (by omega) (by omega)).ext e7 (by decide) (by decide) (by decide) (by decide)
                  have E6 : EvAt (w6.setCell ⟨N, ix, none⟩ (.pointer (some ⟨bn, 0, none⟩))) G6 10 X z5 := (E5.out.1.ext e6 (fun t h1 h2 k => by omega)).ext e7 (fun t h1 h2 k => by omega)
                  have Q6 := (Q5.out.ext e6 (by omega)).ext e7 (by decide)
                  have nf6 := (e6.frozen (p := ⟨N, ix, none⟩) S5.out.ob.lt (by rw [S5.out.ob.o]; omega)).trans NF.out
                  have nc6 := (e6.cell (p := ⟨N, ix, none⟩) S5.out.ob.lt (by rw [S5.out.ob.o]; omega)).trans (S5.out.ob.c ix _ (tsC_get hix6))
                  have t7 : TAt (w6.setCell ⟨N, ix, none⟩ (.pointer (some ⟨bn, 0, none⟩))) bn (tcNew (plRef (1 + zw % 40))) := t6.ext e7 (by rw [g6]; omega)
                  have HST := Lib.hid (c_PTStep (61 + ix) L6.p t7 g6 HNK.out (by omega) L6.hi I5.out.n0 (by omega))
                  have HOK := Lib.hid (tcStep_ok (z := ⟨s5.M, s5.n, s5.la, tcNew (plRef (1 + zw % 40))⟩) HNK.out L6.p.bd)
                  have S6 := Lib.hid S6a
                  have L6 := Lib.hid L6
                  have E6 := Lib.hid E6
                  have Q6 := Lib.hid Q6
                  clear hbn t6 S6a e6 e7 t7 n0 nf
                  go_upto_region 21 with fail
                  obtain ⟨W7, hW7⟩ : ∃ W, W = w6.setCell ⟨N, ix, none⟩ (.pointer (some ⟨bn, 0, none⟩)) := ⟨_, rfl⟩
                  rw [← hW7] at S6 L6 E6 Q6 HST ⊢
                  clear hW7 nf6 nc6
                  have n0 := S6.out.ob.c ix _ (tsC_get hix6)
                  have hsx : setX xs5 ix bn ix = some bn := by unfold setX; rw [if_pos rfl]
                  rw [hsx] at n0
                  have HSX := Lib.hid hsx
                  clear hsx
                  go_wp2_with fail
                  refine HST.out.mono ?_
                  rintro e w8 ⟨rfl, G8, e8, P8, t8, g8⟩
                  have REL : Hid (∃ (i' nx' : Nat) (G : Om) (s : AW) (z : Evm) (T : Nat → Tc) (xs : Nat → Option Nat), Value.int .i64 ((i : Int) + 1) = .int .i64 i' ∧ Value.int .i64 ((nx : Int) + 1) = .int .i64 nx' ∧ i' ≤ 2000 ∧ nx' ≤ i' ∧ LW w w8 G B ⟨b, 8, 3, 1, 16⟩ s ∧ (EvAt w8 G 10 X z ∧ EvOk z) ∧ TsAt w8 G N xs T ∧ BxAt w8 G Q bv ∧ HrI b fr M0 s z T ∧ HrT i' (hrMu b z) ∧ s.n ≤ 1100 + i') :=
                    Lib.hid ⟨i + 1, nx + 1, G8, _, z5, _, _, by go_num, by go_num, by omega, by omega, L6.out.to e8 P8, ⟨E6.out.ext e8 (fun t h1 h2 k => by rcases k with k | k <;> omega), E5.out.2⟩, S6.out.step hix6 HSX.out e8 t8 g8 HOK.out, Q6.out.ext e8 (by intro k; rcases k with k | k <;> omega), HTC.out, SAME.out, by show (tcStep _).n ≤ _; omega⟩
                  clear e8 P8 t8 g8
                  go_wp2_with fail
                  go_roundw
                  case rel => exact REL.out
                  case measure => simp [intOf]; omega
                | some bt =>
                  obtain ⟨hT, hat⟩ : TAt w5 bt (T5 ix) ∧ (T5 ix).at_ = 0 := by
                    have h0 := HNO.out bt HXO.out.symm
                    rcases HTS.out with ⟨h, -⟩ | ⟨b2, h1, h2, h3, h4⟩
                    · rw [← HXO.out] at h; cases h
                    · rw [← HXO.out] at h1; cases h1; exact ⟨h2, h0⟩
                  have HOV := c_Over bt _ _ hT
                  have hof : tcOver (T5 ix) = true := decide_eq_true hat
                  rw [hof] at HOV
                  have HOV := Lib.hid HOV
                  clear hT hat hof
                  go_wp2_with fail
                  refine HOV.out.mono ?_
                  rintro e w' ⟨rfl, rfl⟩
                  go_wp2_with fail
                  refine HNT.out.mono ?_
                  rintro e w6 ⟨rfl, G6, e6, t6, g6⟩
                  obtain ⟨bn, hbn⟩ : ∃ bn, bn = w5.heap.size := ⟨_, rfl⟩
                  rw [← hbn] at t6 g6 ⊢
                  have S6a := S5.out.new hix6 e6 t6 g6 HNK.out
                  have e7 : Ext (fun t => t = 60) G6 w6 G6 (w6.setCell ⟨N, ix, none⟩ (.pointer (some ⟨bn, 0, none⟩))) := Ext.of_set (S := fun t => t = 60) e6.hi ((e6.lo _ S5.out.ob.lt).trans S5.out.ob.o) (show (60 : Nat) ≠ 0 by decide) rfl
                  have L6 := (L5.out.ext e6 (by omega) (by omega) (by omega) (by omega)).ext e7 (by decide) (by decide) (by decide) (by decide)
                  have E6 : EvAt (w6.setCell ⟨N, ix, none⟩ (.pointer (some ⟨bn, 0, none⟩))) G6 10 X z5 := (E5.out.1.ext e6 (fun t h1 h2 k => by omega)).ext e7 (fun t h1 h2 k => by omega)
                  have Q6 := (Q5.out.ext e6 (by omega)).ext e7 (by decide)
                  have nf6 := (e6.frozen (p := ⟨N, ix, none⟩) S5.out.ob.lt (by rw [S5.out.ob.o]; omega)).trans NF.out
                  have nc6 := (e6.cell (p := ⟨N, ix, none⟩) S5.out.ob.lt (by rw [S5.out.ob.o]; omega)).trans (S5.out.ob.c ix _ (tsC_get hix6))
                  have t7 : TAt (w6.setCell ⟨N, ix, none⟩ (.pointer (some ⟨bn, 0, none⟩))) bn (tcNew (plRef (1 + zw % 40))) := t6.ext e7 (by rw [g6]; omega)
                  have HST := Lib.hid (c_PTStep (61 + ix) L6.p t7 g6 HNK.out (by omega) L6.hi I5.out.n0 (by omega))
                  have HOK := Lib.hid (tcStep_ok (z := ⟨s5.M, s5.n, s5.la, tcNew (plRef (1 + zw % 40))⟩) HNK.out L6.p.bd)
                  have S6 := Lib.hid S6a
                  have L6 := Lib.hid L6
                  have E6 := Lib.hid E6
                  have Q6 := Lib.hid Q6
                  clear hbn t6 S6a e6 e7 t7 n0 nf
                  go_upto_region 21 with fail
                  obtain ⟨W7, hW7⟩ : ∃ W, W = w6.setCell ⟨N, ix, none⟩ (.pointer (some ⟨bn, 0, none⟩)) := ⟨_, rfl⟩
                  rw [← hW7] at S6 L6 E6 Q6 HST ⊢
                  clear hW7 nf6 nc6
                  have n0 := S6.out.ob.c ix _ (tsC_get hix6)
                  have hsx : setX xs5 ix bn ix = some bn := by unfold setX; rw [if_pos rfl]
                  rw [hsx] at n0
                  have HSX := Lib.hid hsx
                  clear hsx
                  go_wp2_with fail
                  refine HST.out.mono ?_
                  rintro e w8 ⟨rfl, G8, e8, P8, t8, g8⟩
                  have REL : Hid (∃ (i' nx' : Nat) (G : Om) (s : AW) (z : Evm) (T : Nat → Tc) (xs : Nat → Option Nat), Value.int .i64 ((i : Int) + 1) = .int .i64 i' ∧ Value.int .i64 ((nx : Int) + 1) = .int .i64 nx' ∧ i' ≤ 2000 ∧ nx' ≤ i' ∧ LW w w8 G B ⟨b, 8, 3, 1, 16⟩ s ∧ (EvAt w8 G 10 X z ∧ EvOk z) ∧ TsAt w8 G N xs T ∧ BxAt w8 G Q bv ∧ HrI b fr M0 s z T ∧ HrT i' (hrMu b z) ∧ s.n ≤ 1100 + i') :=
                    Lib.hid ⟨i + 1, nx + 1, G8, _, z5, _, _, by go_num, by go_num, by omega, by omega, L6.out.to e8 P8, ⟨E6.out.ext e8 (fun t h1 h2 k => by rcases k with k | k <;> omega), E5.out.2⟩, S6.out.step hix6 HSX.out e8 t8 g8 HOK.out, Q6.out.ext e8 (by intro k; rcases k with k | k <;> omega), HTC.out, SAME.out, by show (tcStep _).n ≤ _; omega⟩
                  clear e8 P8 t8 g8
                  go_wp2_with fail
                  go_roundw
                  case rel => exact REL.out
                  case measure => simp [intOf]; omega
end Go.Proofs.YtlcibfpibklbdaaGreat
