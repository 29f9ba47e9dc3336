/- Layer 27: FlushesDie. -/
import Derived.Test.YtifkfhnbkjkakaaGreatDoorZrFdA
namespace Go.Proofs.YtifkfhnbkjkakaaGreatDoor
set_option linter.unusedSimpArgs false
open Go.RowKit
set_option linter.unusedVariables false
section
open Go.ChangeShapes Go.WideShapes Go.ChangeAt
theorem leaf_i8 {P : Program} {w : World} {r : Reach} {base : Nat} {u : TypeId} {v : Value} (ht : P.underlying u = some (.int .i8)) (h : Cell.okWide P w r base u v) : ∃ n, v = .int .i8 n ∧ -128 ≤ n ∧ n ≤ 127 := leaf_int ht h
end
theorem infoCall : (Tryz.prog.info? 26).map (fun i => (i.zero, i.size, i.bytes)) = some (some (.agg #[.int .u8 0, .string ⟨#[]⟩, .string ⟨#[]⟩, .int .u32 0, .int .i64 0, .int .u64 0, .int .u64 0]), 7, 72) := by kernel_rfl
/-- What the keys' Gens are, where i of them came again. -/
def GsI (L : List Clm) (Gm : ByteArray → Int) (i : Nat) : Prop := ∀ (j : Nat) (h : j < L.length), Gm L[j].key = if j < i then 1 else 0
theorem GsI.zero (L : List Clm) : GsI L (fun _ => 0) 0 := fun j h => by rw [if_neg (by omega)]
theorem GsI.next {L : List Clm} {Gm : ByteArray → Int} {i : Nat} (h : GsI L Gm i) (hn : (L.map fun c => c.key).Nodup) (hi : i < L.length) : GsI L (updG Gm L[i].key 1) (i + 1) := fun j hj => by
  unfold updG
  by_cases e : L[j].key = L[i].key
  · have hji : j = i := by
      have h1 : (L.map fun c => c.key)[j]'(by rw [List.length_map]; exact hj) = (L.map fun c => c.key)[i]'(by rw [List.length_map]; exact hi) := by simpa using e
      rcases Nat.lt_trichotomy j i with c | c | c
      · exact absurd h1 (List.pairwise_iff_getElem.1 hn j i _ _ c)
      · exact c
      · exact absurd h1.symm (List.pairwise_iff_getElem.1 hn i j _ _ c)
    rw [if_pos e, if_pos (by omega)]
  · have hji : j ≠ i := fun c => e (by subst c; rfl)
    rw [if_neg e, h j hj]
    by_cases c : j < i
    · rw [if_pos c, if_pos (by omega)]
    · rw [if_neg c, if_neg (by omega)]
set_option maxHeartbeats 8000000 in
set_option maxRecDepth 100000 in
theorem w_FlushesDie (v : Value) (l : List Clm) (delay : Int) (w : World) (hV : Va w OZ) (hg : ∀ q ∈ l, ClGood q) (hl : Arr w v l.length 7 (rowOf clCs l)) (d0 : -128 ≤ delay) (d1 : delay ≤ 127) :
    Calls Tryz.prog 4 #[v, .int .i8 delay] w fun e w' => e = .returned (.bool true) ∧ Below w.heap.size w w' := by
  have HW := Lib.hid (c_WorldP 3 w (by decide) (by decide))
  have HLV := Lib.hid c_lives27
  have HVE := Lib.hid (fun (W : World) (G : Om) (e : Env w G W) => hV.fenv e)
  obtain ⟨hlen, ao, cc, rfl, hn, hm, hx⟩ := hl
  have HX := Lib.hid hx
  have HG := Lib.hid hg
  have hl0 : (0 : Int) ≤ (l.length : Int) := by omega
  have hlm : (l.length : Int) ≤ 9223372036854775807 := by unfold maxLen at hm; omega
  obtain ⟨i0, hi, hz0, hz1, hz2⟩ := info_parts infoCall
  have HI := Lib.hid (And.intro hi (And.intro hz0 (And.intro hz1 hz2)))
  have HDB := Lib.hid (And.intro d0 d1)
  have hdw : IntKind.i64.wrap delay = delay := by simp [IntKind.wrap, IntKind.bits, IntKind.signed]; omega
  have HDW := Lib.hid hdw
  clear hdw hg hx hlen hn hm hV hi hz0 hz1 hz2 d0 d1
  go_enter Tryz.func4, Tryz.ntmps4
  go_wp2_with fail
  refine HW.out.mono ?_
  rintro e w1 ⟨B, O1, rfl, p1, E1⟩
  have hb1 := alloc_below w1 (.cells #[.pointer (some ⟨B.p, 0, none⟩)] 28)
  have S1 : FdS w (w1.alloc (.cells #[.pointer (some ⟨B.p, 0, none⟩)] 28)) O1 B (aw0 3) w1.heap.size (.slice none 0 0) [] := ⟨E1.ext (Ext.of_below (S := SW) E1.hi hb1), p1.below E1.hi hb1, Bx.new E1.hi #[.pointer (some ⟨B.p, 0, none⟩)] 28 _ rfl, Row.nil _ _ _ _ _⟩
  obtain ⟨bx, hbx⟩ : ∃ n, n = w1.heap.size := ⟨_, rfl⟩
  obtain ⟨w2, hw2⟩ : ∃ W, W = w1.alloc (.cells #[.pointer (some ⟨B.p, 0, none⟩)] 28) := ⟨_, rfl⟩
  rw [← hbx, ← hw2] at S1
  have HS1 := Lib.hid S1
  have y0 := S1.x.c 0 _ rfl
  unfold PTR at y0
  clear p1 E1 S1 HW hb1
  by_cases hs4 : 4 < (l.length : Int)
  · go_upto_region 3 with fail
    rw [← hbx, ← hw2]
    clear hbx hw2
    go_wp2_with fail
    refine (HLV.out _).mono ?_
    rintro e w9 ⟨rfl, hb9⟩
    go_wp2_with fail
    go_ret
    exact ⟨rfl, HS1.out.e.bel.trans (hb9.mono HS1.out.e.bel.size)⟩
  · go_upto_region 4 with fail
    rw [← hbx, ← hw2]
    clear hbx hw2
    have HL4 : Hid (l.length ≤ 4) := Lib.hid (by omega)
    clear hs4 y0
    go_wp2_with fail
    go_loopw [6, 7] (fun vo iv wr => ∃ (k : Nat) (G : Om) (s : AW) (T : Tab) (L : List Clm), k ≤ l.length ∧ iv = .int .i64 k ∧ FdS w wr G B s bx vo L ∧ FdD s T L (fun _ => 0) k 0 ∧ L.length ≤ k) (fun _ iv _ => l.length - (intOf iv).toNat)
    case atStart => exact ⟨0, O1, aw0 3, _, [], Nat.zero_le _, rfl, HS1.out, FdD.zero, Nat.le_refl _⟩
    case round =>
      clear HS1
      obtain ⟨k, G, s, T, L, hk, rfl, S, D, hL⟩ := hrel
      obtain ⟨ao2, cp2, rfl⟩ := S.shape
      have HS := Lib.hid S
      have HD := Lib.hid (And.intro D hL)
      have y0 := S.x.c 0 _ rfl
      unfold PTR at y0
      obtain ⟨nL, hnL⟩ : ∃ n, n = L.length := ⟨_, rfl⟩
      have HNL := Lib.hid hnL
      rw [← hnL] at HS ⊢
      clear S D hL hnL
      by_cases hlt : k < l.length
      · have hki : (k : Int) < (l.length : Int) := by omega
        have hk0 : (0 : Int) ≤ (k : Int) := by omega
        have hkm : (k : Int) ≤ 4 := by have := HL4.out; omega
        obtain ⟨cq, hcq⟩ : ∃ c, c = l[k] := ⟨_, rfl⟩
        have HGQ := Lib.hid (HG.out cq (hcq ▸ List.getElem_mem hlt))
        have hcell : ∀ j u, (clCs cq)[j]? = some u → (rowOf clCs l)[k * 7 + j]? = some u := fun j u hu => by
          have hj : j < 7 := (List.getElem?_eq_some_iff.1 hu).1
          rw [rowOf_get (k := 7) (fun _ => rfl) l k j hlt hj, ← hcq]
          exact hu
        obtain ⟨lb, lo, hao, hlb, lc1⟩ := HX.out (k * 7 + 1) _ (hcell 1 _ rfl)
        subst hao
        obtain ⟨lb', lo', e2, -, lc2⟩ := HX.out (k * 7 + 2) _ (hcell 2 _ rfl)
        cases e2
        obtain ⟨lb', lo', e3, -, lc3⟩ := HX.out (k * 7 + 3) _ (hcell 3 _ rfl)
        cases e3
        have lc1 : wr.cell? ⟨lb, lo + k * 7 + 1, none⟩ = some (.string cq.key) := by rw [Nat.add_assoc]; exact (HS.out.e.bel.cell (p := ⟨lb, lo + (k * 7 + 1), none⟩) hlb).trans lc1
        have lc2 : wr.cell? ⟨lb, lo + k * 7 + 2, none⟩ = some (.string cq.val) := by rw [Nat.add_assoc]; exact (HS.out.e.bel.cell (p := ⟨lb, lo + (k * 7 + 2), none⟩) hlb).trans lc2
        have lc3 : wr.cell? ⟨lb, lo + k * 7 + 3, none⟩ = some (.int .u32 cq.fl) := by rw [Nat.add_assoc]; exact (HS.out.e.bel.cell (p := ⟨lb, lo + (k * 7 + 3), none⟩) hlb).trans lc3
        have hlbr : lb < wr.heap.size := Nat.lt_of_lt_of_le hlb HS.out.e.bel.size
        clear hcell hcq
        obtain ⟨sm, hsm⟩ : ∃ sm, IntKind.i64.wrap ((cq.key.size : Int) + cq.val.size) = sm := ⟨_, rfl⟩
        by_cases hs2 : 2000 < sm
        · go_upto_region 8 with fail
          go_quiet (fail)
          go_wp2_with fail
          have hbq : Below w.heap.size w (wr.drewN nq) := HS.out.e.bel.trans ((⟨rfl, rfl, rfl, Nat.le_refl _, fun _ _ => rfl⟩ : Below wr.heap.size wr (wr.drewN nq)).mono HS.out.e.bel.size)
          refine (HLV.out _).mono ?_
          rintro e w9 ⟨rfl, hb9⟩
          go_wp2_with fail
          go_ret
          exact ⟨rfl, hbq.trans (hb9.mono hbq.size)⟩
        · go_upto_region 8 with fail
          go_quiet (fail)
          obtain ⟨wq, hwq⟩ : ∃ W, W = wr.drewN nq := ⟨_, rfl⟩
          have HQ : Hid (FdS w wq G B s bx (.slice ao2 nL cp2) L) := Lib.hid (by rw [hwq]; exact HS.out.below ⟨rfl, rfl, rfl, Nat.le_refl _, fun _ _ => rfl⟩)
          have lc1 : wq.cell? ⟨lb, lo + k * 7 + 1, none⟩ = some (.string cq.key) := by rw [hwq]; exact lc1
          have lc2 : wq.cell? ⟨lb, lo + k * 7 + 2, none⟩ = some (.string cq.val) := by rw [hwq]; exact lc2
          have lc3 : wq.cell? ⟨lb, lo + k * 7 + 3, none⟩ = some (.int .u32 cq.fl) := by rw [hwq]; exact lc3
          have hlbr : lb < wq.heap.size := by rw [hwq]; exact hlbr
          have y0 := HQ.out.x.c 0 _ rfl
          unfold PTR at y0
          rw [← hwq]
          clear hwq HS
          obtain ⟨c, hc⟩ : ∃ c : Clm, c = ⟨4, cq.key, cq.val, cq.fl, 0, 0, 0⟩ := ⟨_, rfl⟩
          have HC := Lib.hid hc
          clear hc
          go_upto_region 10 with fail
          go_cut [8] (fun vp wx => vp = .pointer (some ⟨wq.heap.size, 0, none⟩) ∧ wx = (wq.alloc (.cells #[.int .u8 4, .string cq.key, .string cq.val, .int .u32 cq.fl, .int .i64 0, .int .u64 0, .int .u64 0] 26)).drew)
          case first =>
            go_region_held3 (fun w' => w'.cell? ⟨lb, lo + k * 7 + 1, none⟩ = some (.string cq.key) ∧ w'.cell? ⟨lb, lo + k * 7 + 2, none⟩ = some (.string cq.val) ∧ w'.cell? ⟨lb, lo + k * 7 + 3, none⟩ = some (.int .u32 cq.fl)) (go_keep)
              (fail)
            all_goals
              go_wp2_with fail
              go_meet
              exact ⟨rfl, rfl⟩
          obtain ⟨rfl, rfl⟩ := hcut
          have A1 := (HQ.out.below (alloc_below wq (.cells #[.int .u8 4, .string cq.key, .string cq.val, .int .u32 cq.fl, .int .i64 0, .int .u64 0, .int .u64 0] 26))).below (drew_below _)
          have A2 := (Bx.new HQ.out.e.hi #[.int .u8 4, .string cq.key, .string cq.val, .int .u32 cq.fl, .int .i64 0, .int .u64 0, .int .u64 0] 26 wq.heap.size rfl).below (drew_below _)
          obtain ⟨cb, hcb⟩ : ∃ n, n = wq.heap.size := ⟨_, rfl⟩
          obtain ⟨wa, hwa⟩ : ∃ W, W = (wq.alloc (.cells #[.int .u8 4, .string cq.key, .string cq.val, .int .u32 cq.fl, .int .i64 0, .int .u64 0, .int .u64 0] 26)).drew := ⟨_, rfl⟩
          rw [← hwa] at A1 A2
          rw [← hcb] at A2
          have HA := Lib.hid (And.intro A1 A2)
          rw [← hwa, ← hcb]
          clear hwa hcb A1 A2 HQ y0 lc1 lc2 lc3 hlbr
          obtain ⟨an, nu, s', T', L', hcase, D', hcall⟩ := FdD.add (c := c) HD.out.1 HA.out.1.p HA.out.1.e.hi (by rw [HC.out]) (by rw [HC.out]) (by rw [HC.out]; exact HGQ.out.2.1) (by rw [HC.out]; exact HGQ.out.2.2.1) (by have := HD.out.2; omega) (by omega)
          rw [show clV c = .agg #[.int .u8 4, .string cq.key, .string cq.val, .int .u32 cq.fl, .int .i64 0, .int .u64 0, .int .u64 0] from by rw [HC.out]; rfl] at hcall
          unfold ansV at hcall
          have HCL := Lib.hid hcall
          have HD2 := Lib.hid (And.intro hcase D')
          clear hcall hcase D'
          have y0 := HA.out.1.x.c 0 _ rfl
          unfold PTR at y0
          have x0 := HA.out.2.c 0 _ rfl
          have x1 := HA.out.2.c 1 _ rfl
          have x2 := HA.out.2.c 2 _ rfl
          have x3 := HA.out.2.c 3 _ rfl
          have x4 := HA.out.2.c 4 _ rfl
          have x5 := HA.out.2.c 5 _ rfl
          have x6 := HA.out.2.c 6 _ rfl
          go_wp2_with fail
          refine HCL.out.mono ?_
          rintro e w3 ⟨rfl, G3, e3, p3⟩
          have S3 := HA.out.1.to e3 p3 (by unfold SX; omega)
          have X3 := HA.out.2.ext e3
          have HS3 := Lib.hid (And.intro S3 X3)
          have hf := ansKind an nu
          clear x0 x1 x2 x3 x4 x5 x6 y0 e3 p3 HCL HA
          have x0 := X3.c 0 _ rfl
          have x1 := X3.c 1 _ rfl
          have x2 := X3.c 2 _ rfl
          have x3 := X3.c 3 _ rfl
          have x4 := X3.c 4 _ rfl
          have x5 := X3.c 5 _ rfl
          have x6 := X3.c 6 _ rfl
          clear S3 X3
          by_cases h1 : an = 1
          · have d1 : (an == 1) = true := by simp [h1]
            have HL' : Hid (L' = L ++ [c]) := Lib.hid (by rcases HD2.out.1 with h | h; exact h.2; exact absurd h1 h.1)
            have HD3 := Lib.hid HD2.out.2
            clear h1 HD2
            have hnl4 : nL ≤ 4 := by have := HD.out.2; have := HNL.out; omega
            go_upto_region 12 with fail
            go_wp2_with (at_builtin; refine append_row w3 rfl _ _ 27 rfl 26 i0 (.agg #[.int .u8 0, .string ⟨#[]⟩, .string ⟨#[]⟩, .int .u32 0, .int .i64 0, .int .u64 0, .int .u64 0]) 7 72 Tryz.underlying27 HI.out.1 HI.out.2.1 HI.out.2.2.1 HI.out.2.2.2 rfl (by decide) (by decide) G3 44 (by decide) HS3.out.1.e.hi (.slice ao2 nL cp2) L.length (rowOf clCs L) rfl HS3.out.1.m [.int .u8 4, .string cq.key, .string cq.val, .int .u32 cq.fl, .int .i64 0, .int .u64 0, .int .u64 0] _ rfl rfl (by simp [Value.oneCell']) (by have := HNL.out; omega) ?_; intro gg cap Wz Gz ez rz; have HRn : Hid (FdS w Wz Gz B s' bx (.slice (some ⟨gg, 0, none⟩) (L.length + 1) cap) L') := Lib.hid ⟨HS3.out.1.e.ext ez, HS3.out.1.p.ext ez (by decide) (by decide) (by decide) (by decide), HS3.out.1.x.ext ez, by rw [HL'.out, rowOf_snoc, List.length_append, HC.out]; exact rz⟩; clear ez rz)
            go_roundw
            case rel => exact ⟨k + 1, Gz, s', T', L', by omega, by go_num, HRn.out, HD3.out, by rw [HL'.out, List.length_append]; have := HD.out.2; simp; omega⟩
            case measure => simp [intOf]; omega
          · have d1 : (an == 1) = false := by simp [h1]
            have HL' : Hid (L' = L) := Lib.hid (by rcases HD2.out.1 with h | h; exact absurd h.1 h1; exact h.2)
            have HD3 := Lib.hid HD2.out.2
            clear h1 HD2
            go_wp2_with fail
            go_roundw
            case rel => exact ⟨k + 1, G3, s', T', L', by omega, by go_num, by rw [HL'.out]; exact HS3.out.1, HD3.out, by rw [HL'.out]; have := HD.out.2; omega⟩
            case measure => simp [intOf]; omega
      · obtain rfl : k = l.length := by omega
        clear y0
        obtain ⟨d, hd⟩ : ∃ d : Int, d = min delay 60 := ⟨_, rfl⟩
        have hd6 : d ≤ 60 ∧ -128 ≤ d := by rw [hd]; have := HDB.out; omega
        have HD6 := Lib.hid hd6
        have hdw := HDW.out
        clear hd6
        go_upto_region 13 with fail
        go_cut [9] (fun vd wx => vd = .int .i64 d ∧ wr = wx)
        case first =>
          go_wp2_with fail
          go_meet
          exact ⟨by rw [hd], rfl⟩
        obtain ⟨rfl, rfl⟩ := hcut
        obtain ⟨s5, ep5, hfl, D5⟩ := FdD.flush HD.out.1 2 d
        rw [epDi_0 d HD6.out.1] at D5
        have HFL := Lib.hid (c_does27E wr G B ⟨3, 8, 3, 1, 16⟩ 10 2 d s 4 s5 10 ep5 hfl HS.out.p (by decide) (by decide) HS.out.e.hi HD.out.1.d.n0 (by have := HD.out.1.d.n1; have := HL4.out; omega) (by have := HD6.out; omega) (by have := HD6.out; omega))
        have HL4' : Hid (nL ≤ 4) := Lib.hid (by have := HD.out.2; have := HNL.out; have := HL4.out; omega)
        have HD5 := Lib.hid D5
        have y0 := HS.out.x.c 0 _ rfl
        unfold PTR at y0
        clear hfl D5 hd hdw
        go_wp2_with fail
        refine HFL.out.mono ?_
        rintro e w5 ⟨rfl, G5, e5, p5⟩
        have S5 := HS.out.to e5 p5 (by unfold SX; omega)
        have S6 := S5.below (alloc_below w5 (.cells #[.int .u8 10, .int .u64 0, .string ⟨#[]⟩, .string ⟨#[]⟩, .int .u32 0, .int .u64 0, .int .i64 0, .int .i64 0] 36))
        have A6 := Bx.new S5.e.hi #[.int .u8 10, .int .u64 0, .string ⟨#[]⟩, .string ⟨#[]⟩, .int .u32 0, .int .u64 0, .int .i64 0, .int .i64 0] 36 w5.heap.size rfl
        obtain ⟨ab, hab⟩ : ∃ n, n = w5.heap.size := ⟨_, rfl⟩
        obtain ⟨w6, hw6⟩ : ∃ W, W = w5.alloc (.cells #[.int .u8 10, .int .u64 0, .string ⟨#[]⟩, .string ⟨#[]⟩, .int .u32 0, .int .u64 0, .int .i64 0, .int .i64 0] 36) := ⟨_, rfl⟩
        rw [← hw6] at S6 A6
        rw [← hab] at A6
        have a0 := A6.c 0 _ rfl
        have HS6 := Lib.hid S6
        clear e5 p5 S5 S6 A6 HFL HS y0
        go_upto_region 17 with fail
        rw [← hw6, ← hab]
        clear hw6 hab a0
        go_wp2_with fail
        go_loopw [14] (fun kv wr => ∃ (k q : Nat) (G : Om) (s : AW) (T : Tab), ((k : Int) ≤ d ∨ k = 0) ∧ kv = .int .i64 k ∧ FdS w wr G B s bx (.slice ao2 nL cp2) L ∧ FdD s T L (fun _ => 0) q (epDi d k) ∧ q ≤ 5 + 5 * k) (fun kv _ => 60 - (intOf kv).toNat)
        case atStart => exact ⟨0, _, G5, s5, T, .inr rfl, rfl, HS6.out, HD5.out, by have := HL4.out; omega⟩
        case round =>
          clear HS6 HD5 HD
          obtain ⟨k, q, G, s, T, hk, rfl, S, D, hq⟩ := hrel
          have HS := Lib.hid S
          have HD := Lib.hid (And.intro D hq)
          have HK := Lib.hid hk
          have hk60 : (k : Int) ≤ 60 := by have := HD6.out; omega
          clear S D hq hk
          by_cases hlt : (k : Int) < d
          · have dlt : decide ((k : Int) < d) = true := decide_eq_true hlt
            have HLT := Lib.hid hlt
            clear hlt
            go_wp2_with fail
            go_loopw [15] (fun iv wr => ∃ (i : Nat) (G : Om) (s : AW) (T : Tab), i ≤ nL ∧ iv = .int .i64 i ∧ FdS w wr G B s bx (.slice ao2 nL cp2) L ∧ FdD s T L (fun _ => 0) (q + i) (epDi d k)) (fun iv _ => nL - (intOf iv).toNat)
            case atStart => exact ⟨0, G, s, T, Nat.zero_le _, rfl, HS.out, HD.out.1⟩
            case round =>
              have HQQ := Lib.hid HD.out.2
              clear HS HD
              obtain ⟨i, G, s, T, hi, rfl, S, D⟩ := hrel
              have HS := Lib.hid S
              have HD := Lib.hid D
              clear S D
              have hn4 := HL4'.out
              by_cases hin : i < nL
              · have hii : i < L.length := by rw [← HNL.out]; exact hin
                obtain ⟨mb, mc, hv, hcell⟩ := HS.out.at hii
                injection hv with hv1 hv2 hv3
                subst hv1
                subst hv3
                obtain ⟨cq, hcq⟩ : ∃ c, c = L[i] := ⟨_, rfl⟩
                obtain ⟨s', T', D', hT⟩ := FdD.touch HD.out HS.out.p.bd (c := cq) (hcq ▸ List.getElem_mem hii) (by rw [(epDi_now d k HD6.out.1 (by omega)).2.2, if_pos HLT.out]) (by have := HQQ.out; omega)
                have hT := hT HS.out.p (HVE.out _ _ HS.out.e) HS.out.x HS.out.e.hi
                unfold clV at hT
                have HT := Lib.hid hT
                have HD2 := Lib.hid D'
                rw [← hcq] at hcell
                have c0 := hcell 0 _ rfl
                have c1 := hcell 1 _ rfl
                have c2 := hcell 2 _ rfl
                have c3 := hcell 3 _ rfl
                have c4 := hcell 4 _ rfl
                have c5 := hcell 5 _ rfl
                have c6 := hcell 6 _ rfl
                rw [Nat.add_zero] at c0
                have hil : (i : Int) < (nL : Int) := by omega
                clear hT D' hcell hcq hii hv2
                go_wp2_with fail
                refine HT.out.mono ?_
                rintro e w7 ⟨rfl, G7, e7, p7⟩
                have S7 := HS.out.to e7 p7 (by unfold SX; omega)
                have HS7 := Lib.hid S7
                clear e7 p7 S7 HS HT c0 c1 c2 c3 c4 c5 c6
                go_wp2_with fail
                go_roundw
                case rel => exact ⟨i + 1, G7, s', T', by omega, by go_num, HS7.out, HD2.out⟩
                case measure => simp [intOf]; omega
              · obtain rfl : i = nL := by omega
                have y0 := HS.out.x.c 0 _ rfl
                unfold PTR at y0
                have h0 := HD.out.d.n0
                have h1 := HD.out.d.n1
                have hq := HQQ.out
                have HTK := Lib.hid (c_WTick wr G B ⟨3, 8, 3, 1, 16⟩ s HS.out.p HS.out.e.hi h0 (by omega))
                clear h0 h1 hq
                go_wp2_with fail
                refine HTK.out.mono ?_
                rintro e wt ⟨rfl, Gt, et, pt⟩
                have HT := Lib.hid (HS.out.to et pt (by unfold SW; omega))
                clear et pt HTK y0
                go_wp2_with fail
                go_roundw
                case rel => exact ⟨k + 1, q + i + 1, Gt, awTick s, T, .inl (by have := HLT.out; push_cast; omega), by go_num, HT.out, by rw [← epDi_tick d k HD6.out.1 (by omega)]; exact HD.out.tick, by have := HQQ.out; omega⟩
                case measure => have := HLT.out; have := HD6.out; simp [intOf]; omega
          · have dlt : decide ((k : Int) < d) = false := decide_eq_false hlt
            have HGN : Hid (∀ j : Nat, j ≤ 5 → epGen (epDi d (k + j)) = 1) := Lib.hid (fun j hj => by rw [(epDi_now d (k + j) HD6.out.1 (by omega)).2.2, if_neg (by push_cast; omega)])
            clear hlt
            go_upto_region 27 with fail
            go_wp2_with fail
            go_loopw [16] (fun iv wr => ∃ (i : Nat) (G : Om) (s : AW) (T : Tab) (Gm : ByteArray → Int), i ≤ nL ∧ iv = .int .i64 i ∧ FdS w wr G B s bx (.slice ao2 nL cp2) L ∧ FdD s T L Gm (q + 3 * i) (epDi d k) ∧ GsI L Gm i) (fun iv _ => nL - (intOf iv).toNat)
            case atStart => exact ⟨0, G, s, T, _, Nat.zero_le _, rfl, HS.out, HD.out.1, GsI.zero L⟩
            case round =>
              have HQQ := Lib.hid HD.out.2
              clear HS HD
              obtain ⟨i, G, s, T, Gm, hi, rfl, S, D, hG⟩ := hrel
              have HS := Lib.hid S
              have HD := Lib.hid (And.intro D hG)
              clear S D hG
              have hn4 := HL4'.out
              by_cases hin : i < nL
              · have hii : i < L.length := by rw [← HNL.out]; exact hin
                have hil : (i : Int) < (nL : Int) := by omega
                obtain ⟨mb, mc, hv, hcell0⟩ := HS.out.at hii
                injection hv with hv1 hv2 hv3
                subst hv1
                subst hv3
                obtain ⟨cq, hcq⟩ : ∃ c, c = L[i] := ⟨_, rfl⟩
                have hmem : cq ∈ L := hcq ▸ List.getElem_mem hii
                have hg0 : Gm cq.key = 0 := by
                  have := HD.out.2 i hii
                  rw [if_neg (by omega), ← hcq] at this
                  exact this
                have hg1 : epGen (epDi d k) = 1 := by have := HGN.out 0 (by omega); simpa using this
                have HM := Lib.hid (And.intro hmem (And.intro hg0 (And.intro hg1 hcq)))
                have hcell : ∀ (W : World) (G : Om) (s : AW), FdS w W G B s bx (.slice (some ⟨mb, 0, none⟩) nL cp2) L → ∀ j u, (clCs cq)[j]? = some u → W.cell? ⟨mb, i * 7 + j, none⟩ = some u := fun W G s hS j u hu => by
                  obtain ⟨b, c, hv, hc⟩ := hS.at hii
                  injection hv with hv1 hv2 hv3
                  injection hv1 with hv1
                  injection hv1 with hv1
                  subst hv1
                  rw [← hcq] at hc
                  exact hc j u hu
                have HCELL := Lib.hid hcell
                have SD := HS.out.below (drew_below wr)
                obtain ⟨s2, D2, hT2⟩ := FdD.dead HD.out.1 HS.out.p.bd hmem (by rw [hg0, hg1]; decide) (by have := HQQ.out; omega)
                have hT2 := hT2 SD.p (HVE.out _ _ SD.e) SD.x SD.e.hi
                unfold clV at hT2
                have HT2 := Lib.hid hT2
                have HD2 := Lib.hid D2
                have HSD := Lib.hid SD
                have y0 := HS.out.x.c 0 _ rfl
                unfold PTR at y0
                have c0 := hcell _ _ _ HS.out 0 _ rfl
                have c1 := hcell _ _ _ HS.out 1 _ rfl
                have c2 := hcell _ _ _ HS.out 2 _ rfl
                have c3 := hcell _ _ _ HS.out 3 _ rfl
                have c4 := hcell _ _ _ HS.out 4 _ rfl
                have c5 := hcell _ _ _ HS.out 5 _ rfl
                have c6 := hcell _ _ _ HS.out 6 _ rfl
                rw [Nat.add_zero] at c0
                clear hT2 D2 SD hcell hcell0 hmem hg0 hg1 hv2 hcq
                go_upto_region 30 with fail
                go_cut [147] (fun v wx => v = .bool false ∧ ∃ (G' : Om) (s' : AW) (T' : Tab), FdS w wx G' B s' bx (.slice (some ⟨mb, 0, none⟩) nL cp2) L ∧ FdD s' T' L (updG Gm cq.key 1) (q + 3 * i + 1 + 1 + 1) (epDi d k))
                case first =>
                  go_region_held3 (fun w' => w'.cell? ⟨bx, 0, none⟩ = some (.pointer (some ⟨B.p, 0, none⟩)) ∧ w'.cell? ⟨mb, i * 7, none⟩ = some (.int .u8 cq.verb) ∧ w'.cell? ⟨mb, i * 7 + 1, none⟩ = some (.string cq.key) ∧ w'.cell? ⟨mb, i * 7 + 2, none⟩ = some (.string cq.val) ∧ w'.cell? ⟨mb, i * 7 + 3, none⟩ = some (.int .u32 cq.fl) ∧ w'.cell? ⟨mb, i * 7 + 4, none⟩ = some (.int .i64 cq.exp) ∧ w'.cell? ⟨mb, i * 7 + 5, none⟩ = some (.int .u64 cq.id) ∧ w'.cell? ⟨mb, i * 7 + 6, none⟩ = some (.int .u64 cq.by_)) (go_keep)
                    (first
                      | (go_at_call 20
                         refine HT2.out.mono ?_
                         rintro e w3 ⟨rfl, G3, e3, p3⟩
                         have S3 := HSD.out.to e3 p3 (by unfold SX; omega)
                         have HS3 := Lib.hid S3
                         obtain ⟨s4, T4, nu4, D4, hT4⟩ := FdD.again HD2.out S3.p S3.e.hi HM.out.1 (by rw [HM.out.2.1, HM.out.2.2.1]; decide) (by have := HQQ.out; omega)
                         unfold clV ansV at hT4
                         rw [HM.out.2.2.1] at D4
                         have HT4 := Lib.hid hT4
                         have HD4 := Lib.hid D4
                         have hf := ansKind 1 nu4
                         have y0 := S3.x.c 0 _ rfl
                         unfold PTR at y0
                         have c0 := HCELL.out _ _ _ S3 0 _ rfl
                         have c1 := HCELL.out _ _ _ S3 1 _ rfl
                         have c2 := HCELL.out _ _ _ S3 2 _ rfl
                         have c3 := HCELL.out _ _ _ S3 3 _ rfl
                         have c4 := HCELL.out _ _ _ S3 4 _ rfl
                         have c5 := HCELL.out _ _ _ S3 5 _ rfl
                         have c6 := HCELL.out _ _ _ S3 6 _ rfl
                         rw [Nat.add_zero] at c0
                         clear e3 p3 S3 HT2 hT4 D4)
                      | (go_at_call 18
                         refine HT4.out.mono ?_
                         rintro e w5 ⟨rfl, G5, e5, p5⟩
                         have S5 := HS3.out.to e5 p5 (by unfold SX; omega)
                         have HS5 := Lib.hid S5
                         obtain ⟨s6, T6, D6, hT6⟩ := FdD.touch HD4.out S5.p.bd HM.out.1 (by unfold updG; rw [if_pos rfl, HM.out.2.2.1]) (by have := HQQ.out; omega)
                         have hT6 := hT6 S5.p (HVE.out _ _ S5.e) S5.x S5.e.hi
                         unfold clV at hT6
                         have HT6 := Lib.hid hT6
                         have HD6' := Lib.hid D6
                         have y0 := S5.x.c 0 _ rfl
                         unfold PTR at y0
                         have c0 := HCELL.out _ _ _ S5 0 _ rfl
                         have c1 := HCELL.out _ _ _ S5 1 _ rfl
                         have c2 := HCELL.out _ _ _ S5 2 _ rfl
                         have c3 := HCELL.out _ _ _ S5 3 _ rfl
                         have c4 := HCELL.out _ _ _ S5 4 _ rfl
                         have c5 := HCELL.out _ _ _ S5 5 _ rfl
                         have c6 := HCELL.out _ _ _ S5 6 _ rfl
                         rw [Nat.add_zero] at c0
                         clear e5 p5 S5 HT4 hT6 D6)
                      | (go_at_call 20
                         refine HT6.out.mono ?_
                         rintro e w7 ⟨rfl, G7, e7, p7⟩
                         have S7 := HS5.out.to e7 p7 (by unfold SX; omega)
                         have HS7 := Lib.hid S7
                         have y0 := S7.x.c 0 _ rfl
                         unfold PTR at y0
                         have c0 := HCELL.out _ _ _ S7 0 _ rfl
                         have c1 := HCELL.out _ _ _ S7 1 _ rfl
                         have c2 := HCELL.out _ _ _ S7 2 _ rfl
                         have c3 := HCELL.out _ _ _ S7 3 _ rfl
                         have c4 := HCELL.out _ _ _ S7 4 _ rfl
                         have c5 := HCELL.out _ _ _ S7 5 _ rfl
                         have c6 := HCELL.out _ _ _ S7 6 _ rfl
                         rw [Nat.add_zero] at c0
                         clear e7 p7 S7))
                  all_goals
                    go_wp2_with fail
                    go_meet
                    exact ⟨rfl, G7, _, _, HS7.out, HD6'.out⟩
                obtain ⟨rfl, G7, s7, T7, S7, D7⟩ := hcut
                have HS7 := Lib.hid S7
                have HD7 := Lib.hid D7
                clear S7 D7 y0 c0 c1 c2 c3 c4 c5 c6 HS HT2 HD2 HSD
                go_wp2_with fail
                go_roundw
                case rel => exact ⟨i + 1, G7, s7, T7, _, by omega, by go_num, HS7.out, HD7.out, by rw [HM.out.2.2.2]; exact HD.out.2.next HD.out.1.d.nd (by rw [← HNL.out]; exact hin)⟩
                case measure => simp [intOf]; omega
              · obtain rfl : i = nL := by omega
                go_wp2_with fail
                go_loopw [17] (fun jv wr => ∃ (j : Nat) (G : Om) (s : AW) (T : Tab), j ≤ 5 ∧ jv = .int .i64 j ∧ FdS w wr G B s bx (.slice ao2 i cp2) L ∧ FdD s T L Gm (q + 3 * i + j) (epDi d (k + j))) (fun jv _ => 5 - (intOf jv).toNat)
                case atStart => exact ⟨0, G, s, T, Nat.zero_le _, rfl, HS.out, HD.out.1⟩
                case round =>
                  have HGI := Lib.hid HD.out.2
                  clear HS HD
                  obtain ⟨j, G, s, T, hj, rfl, S, D⟩ := hrel
                  have HS := Lib.hid S
                  have HD := Lib.hid D
                  clear S D
                  by_cases hj5 : j < 5
                  · have dj : decide ((j : Int) < 5) = true := decide_eq_true (by omega)
                    have y0 := HS.out.x.c 0 _ rfl
                    unfold PTR at y0
                    have h0 := HD.out.d.n0
                    have h1 := HD.out.d.n1
                    have hq := HQQ.out
                    have HTK := Lib.hid (c_WTick wr G B ⟨3, 8, 3, 1, 16⟩ s HS.out.p HS.out.e.hi h0 (by omega))
                    clear h0 h1 hq
                    go_wp2_with fail
                    refine HTK.out.mono ?_
                    rintro e wt ⟨rfl, Gt, et, pt⟩
                    have HT := Lib.hid (HS.out.to et pt (by unfold SW; omega))
                    clear et pt HTK y0
                    go_wp2_with fail
                    go_roundw
                    case rel => exact ⟨j + 1, Gt, awTick s, T, by omega, by go_num, HT.out, by rw [show k + (j + 1) = (k + j) + 1 by omega, ← epDi_tick d (k + j) HD6.out.1 (by omega)]; exact HD.out.tick⟩
                    case measure => simp [intOf]; omega
                  · have HJ : Hid (j = 5) := Lib.hid (by omega)
                    have dj : decide ((j : Int) < 5) = false := decide_eq_false (by omega)
                    clear hj hj5
                    go_wp2_with fail
                    go_loopw [18] (fun iv wr => ∃ (h : Nat) (G : Om) (s : AW) (T : Tab), h ≤ i ∧ iv = .int .i64 h ∧ FdS w wr G B s bx (.slice ao2 i cp2) L ∧ FdD s T L Gm (q + 3 * i + j + h) (epDi d (k + j))) (fun iv _ => i - (intOf iv).toNat)
                    case atStart => exact ⟨0, G, s, T, Nat.zero_le _, rfl, HS.out, HD.out⟩
                    case round =>
                      clear HS HD
                      obtain ⟨h, G, s, T, hh, rfl, S, D⟩ := hrel
                      have HS := Lib.hid S
                      have HD := Lib.hid D
                      clear S D
                      by_cases hin : h < i
                      · have hii : h < L.length := by rw [← HNL.out]; exact hin
                        obtain ⟨mb, mc, hv, hcell⟩ := HS.out.at hii
                        injection hv with hv1 hv2 hv3
                        subst hv1
                        subst hv3
                        obtain ⟨cq, hcq⟩ : ∃ c, c = L[h] := ⟨_, rfl⟩
                        obtain ⟨s', T', D', hT⟩ := FdD.touch HD.out HS.out.p.bd (c := cq) (hcq ▸ List.getElem_mem hii) (by rw [HGN.out j (by have := HJ.out; omega)]; have := HGI.out h hii; rw [if_pos hin, ← hcq] at this; exact this) (by have := HQQ.out; have := HJ.out; omega)
                        have hT := hT HS.out.p (HVE.out _ _ HS.out.e) HS.out.x HS.out.e.hi
                        unfold clV at hT
                        have HT := Lib.hid hT
                        have HD2 := Lib.hid D'
                        rw [← hcq] at hcell
                        have c0 := hcell 0 _ rfl
                        have c1 := hcell 1 _ rfl
                        have c2 := hcell 2 _ rfl
                        have c3 := hcell 3 _ rfl
                        have c4 := hcell 4 _ rfl
                        have c5 := hcell 5 _ rfl
                        have c6 := hcell 6 _ rfl
                        rw [Nat.add_zero] at c0
                        have hil : (h : Int) < (i : Int) := by omega
                        clear hT D' hcell hcq hii hv2
                        go_wp2_with fail
                        refine HT.out.mono ?_
                        rintro e w7 ⟨rfl, G7, e7, p7⟩
                        have S7 := HS.out.to e7 p7 (by unfold SX; omega)
                        have HS7 := Lib.hid S7
                        clear e7 p7 S7 HS HT c0 c1 c2 c3 c4 c5 c6
                        go_wp2_with fail
                        go_roundw
                        case rel => exact ⟨h + 1, G7, s', T', by omega, by go_num, HS7.out, HD2.out⟩
                        case measure => simp [intOf]; omega
                      · obtain rfl : h = i := by omega
                        have y0 := HS.out.x.c 0 _ rfl
                        unfold PTR at y0
                        have y02 := HS.out.p.wo.c2
                        have HNC : Hid (Calls Tryz.prog 16 #[.pointer (some ⟨B.np, 0, none⟩)] wr fun e w' => e = .returned (.int .i64 0) ∧ wr = w') := Lib.hid (by
                          obtain ⟨v, hN, -⟩ := HS.out.p.no.ex
                          rw [HD.out.d.nt] at hN
                          obtain ⟨-, ao, cp, rfl, -⟩ := Arr.of_own hN.own
                          exact c_NtCount _ ao 0 cp _ hN.head)
                        go_upto_region 41 with fail
                        go_wp2_with fail
                        refine HNC.out.mono ?_
                        rintro e w' ⟨rfl, rfl⟩
                        go_wp2_with fail
                        refine (HLV.out _).mono ?_
                        rintro e w9 ⟨rfl, hb9⟩
                        go_wp2_with fail
                        go_ret
                        exact ⟨rfl, HS.out.e.bel.trans (hb9.mono HS.out.e.bel.size)⟩
end Go.Proofs.YtifkfhnbkjkakaaGreatDoor
