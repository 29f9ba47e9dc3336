/- Layer 27: FlushesPlay. -/
import Derived.Test.YtijifjiehldcaaaGreatFcA
namespace Go.Proofs.YtijifjiehldcaaaGreat
set_option linter.unusedSimpArgs false
open Go.RowKit
set_option linter.unusedVariables false

theorem keepB {W W' : World} {n j : Nat} {v : Value} (hl : n < W.heap.size) (h : W.cell? ⟨n, j, none⟩ = some v) (hb : Below W.heap.size W W') : W'.cell? ⟨n, j, none⟩ = some v := (hb.cell (p := ⟨n, j, none⟩) hl).trans h
set_option maxHeartbeats 4000000 in
set_option maxRecDepth 100000 in
theorem w_FlushesPlay (v : Value) (F : Fst) (vl : Value) (l : List Fact) (w : World) (g : FstBd F) (c : FstAt w v F) (gl : ∀ q ∈ l, FactOk q) (hA : Arr w vl l.length 5 (rowOf factc l)) :
    Calls Tryz.prog 5 #[v, vl] w fun e w' => e = .returned (.bool true) ∧ Below w.heap.size w w' := by
  obtain ⟨⟨fb, fg, ft, fq, fy⟩, gr, it, pu, st, ti⟩ := F
  obtain ⟨vi, vp, vs, rfl, a1, a2, a3⟩ := c.ex
  obtain ⟨ai, ci, rfl, hci, hmi⟩ := a1.shape
  obtain ⟨ap, cp, rfl, hcp, hmp⟩ := a2.shape
  obtain ⟨as', cs, rfl, hcs, hms⟩ := a3.shape
  obtain ⟨al, cl, rfl, hcl, hml⟩ := hA.shape
  unfold fstV at c ⊢
  dsimp only at c a1 a2 a3 ⊢
  have HC := Lib.hid c
  have HA := Lib.hid (And.intro a1 (And.intro a2 a3))
  have HG := Lib.hid g
  have HL := Lib.hid hA
  have HGL := Lib.hid gl
  clear c a1 a2 a3 g hA gl
  have hml9 : l.length ≤ 9223372036854775807 := by unfold maxLen at hml; omega
  go_enter Tryz.func5, Tryz.ntmps5
  go_wp2_with fail
  obtain ⟨W1, hW1⟩ : ∃ W1, W1 = w.alloc (.cells #[.int .i64 fb, .int .i64 fg, .int .i64 ft, .int .i64 fq, .int .i64 fy, .bool gr, .slice ai it.length ci, .slice ap pu.length cp, .slice as' st.length cs, .int .i64 ti] 28) := ⟨_, rfl⟩
  have B1 : Hid (Below w.heap.size w W1) := Lib.hid (by rw [hW1]; exact (Below.refl _ _).alloc (Nat.le_refl _) _)
  have n1 : w.heap.size < W1.heap.size := by rw [hW1]; simp
  have y0 : W1.cell? ⟨w.heap.size, 0, none⟩ = some (.int .i64 fb) := by rw [hW1]; simp
  have y1 : W1.cell? ⟨w.heap.size, 1, none⟩ = some (.int .i64 fg) := by rw [hW1]; simp
  have y2 : W1.cell? ⟨w.heap.size, 2, none⟩ = some (.int .i64 ft) := by rw [hW1]; simp
  have y3 : W1.cell? ⟨w.heap.size, 3, none⟩ = some (.int .i64 fq) := by rw [hW1]; simp
  have y4 : W1.cell? ⟨w.heap.size, 4, none⟩ = some (.int .i64 fy) := by rw [hW1]; simp
  have y5 : W1.cell? ⟨w.heap.size, 5, none⟩ = some (.bool gr) := by rw [hW1]; simp
  have y6 : W1.cell? ⟨w.heap.size, 6, none⟩ = some (.slice ai it.length ci) := by rw [hW1]; simp
  have y7 : W1.cell? ⟨w.heap.size, 7, none⟩ = some (.slice ap pu.length cp) := by rw [hW1]; simp
  have y8 : W1.cell? ⟨w.heap.size, 8, none⟩ = some (.slice as' st.length cs) := by rw [hW1]; simp
  have y9 : W1.cell? ⟨w.heap.size, 9, none⟩ = some (.int .i64 ti) := by rw [hW1]; simp
  rw [← hW1]
  clear hW1
  refine (c_Great (HC.out.below B1.out)).mono ?_
  rintro e w3 ⟨b, rfl, hb3, hbd⟩
  have B3 := Lib.hid (B1.out.trans (hb3.mono B1.out.size))
  have HBD := Lib.hid hbd
  cases b with
  | true =>
    clear hb3 hbd y0 y1 y2 y3 y4 y5 y6 y7 y8 y9
    go_wp2_with fail
    refine (c_lives27 w3).mono ?_
    rintro e w4 ⟨rfl, hb4⟩
    go_wp2_with fail
    go_ret
    exact ⟨rfl, B3.out.trans (hb4.mono B3.out.size)⟩
  | false =>
    by_cases hl3 : 400 < l.length
    · have d3 : decide ((400 : Int) < (l.length : Int)) = true := by simp; omega
      clear hb3 hbd y0 y1 y2 y3 y4 y5 y6 y7 y8 y9
      go_wp2_with fail
      refine (c_lives27 w3).mono ?_
      rintro e w4 ⟨rfl, hb4⟩
      go_wp2_with fail
      go_ret
      exact ⟨rfl, B3.out.trans (hb4.mono B3.out.size)⟩
    have d3 : decide ((400 : Int) < (l.length : Int)) = false := by simp; omega
    have k := fun j => hb3.cell (p := ⟨w.heap.size, j, none⟩) n1
    have z0 := (k 0).trans y0
    have z1 := (k 1).trans y1
    have z2 := (k 2).trans y2
    have z3 := (k 3).trans y3
    have z4 := (k 4).trans y4
    have z5 := (k 5).trans y5
    have z6 := (k 6).trans y6
    have z7 := (k 7).trans y7
    have z8 := (k 8).trans y8
    have z9 := (k 9).trans y9
    clear hb3 hbd k y0 y1 y2 y3 y4 y5 y6 y7 y8 y9
    have hbb := HBD.out (by first | rfl | trivial)
    have hBg := c_Begin ⟨⟨fb, fg, ft, fq, fy⟩, gr, it, pu, st, ti⟩ (.slice ai it.length ci) (.slice ap pu.length cp) (.slice as' st.length cs) w3 ⟨HA.out.1.below B3.out, HA.out.2.1.below B3.out, HA.out.2.2.below B3.out, hbb.1, hbb.2.1, hbb.2.2.1, hbb.2.2.2, HG.out.pub, HG.out.stb, HG.out.ti0, HG.out.ti1⟩
    have hit40 := hbb.1
    unfold fstV at hBg
    dsimp only at hBg
    have HBg := Lib.hid hBg
    clear hBg hbb
    go_wp2_with fail
    refine HBg.out.mono ?_
    rintro e w4 ⟨B, C, rfl, G, e4, s, m, pr, n0, n1, m1, hit, hnt⟩
    have E4 := env_begin0 B3.out e4
    obtain ⟨f, hf⟩ : ∃ f : Cf, f = cfOf ⟨fb, fg, ft, fq, fy⟩ := ⟨_, rfl⟩
    rw [← hf] at pr
    clear HBg e4 hf z0 z1 z2 z3 z4 z5 z6 z7 z8 z9
    obtain ⟨W4, hW4⟩ : ∃ W4, W4 = w4.alloc (.cells #[.pointer (some ⟨B.p, 0, none⟩), .pointer (some ⟨C.p, 0, none⟩)] 34) := ⟨_, rfl⟩
    have b4 : Below w4.heap.size w4 W4 := by rw [hW4]; exact (Below.refl _ _).alloc (Nat.le_refl _) _
    have hs4 : W4.heap.size = w4.heap.size + 1 := by rw [hW4]; simp
    have y0 : W4.cell? ⟨w4.heap.size, 0, none⟩ = some (.pointer (some ⟨B.p, 0, none⟩)) := by rw [hW4]; simp
    have y1 : W4.cell? ⟨w4.heap.size, 1, none⟩ = some (.pointer (some ⟨C.p, 0, none⟩)) := by rw [hW4]; simp
    have yl : w4.heap.size < W4.heap.size := by omega
    have E5 := E4.ext (S := fun _ => True) (Ext.of_below E4.hi b4)
    obtain ⟨G5, e5, x5, -⟩ := alloc_ob E5.hi 9 (rowOf fopc [none, none, none, none]).toArray 67 (w4.heap.size + 1) (by rw [hs4])
    have zo := zero_own E4.hi (Nat.le_refl w4.heap.size)
    have H0 := FI.mk (N := w4.heap.size) (NA := w4.heap.size + 1) (k := 0) (sl := [none, none, none, none]) (f := f) (E5.ext e5) ((pr.below E4.hi b4).ext e5 (fun t ht => by have := ht.2; omega)) n0 (by omega) (by omega) (by rw [hit]; exact hit40) hnt x5 rfl
      (fun j q h => by match j, h with | 0, h => cases h | 1, h => cases h | 2, h => cases h | 3, h => cases h | j + 4, h => simp at h)
      (Nat.lt_of_lt_of_le yl e5.size) ((e5.lo _ yl).trans zo) ((e5.nob (by decide) yl zo 0).trans y0) ((e5.nob (by decide) yl zo 1).trans y1)
    have HH0 := Lib.hid H0
    obtain ⟨W5, hW5⟩ : ∃ W5, W4.alloc (.cells (rowOf fopc [none, none, none, none]).toArray 67) = W5 := ⟨_, rfl⟩
    have hW5b : W4.alloc (.cells #[.pointer none, .pointer none, .pointer none, .pointer none, .pointer none, .pointer none, .pointer none, .pointer none] 67) = W5 := hW5
    rw [hW5] at HH0
    rw [hW4] at hW5b
    clear H0 b4 hs4 y0 y1 yl E5 e5 x5 zo pr E4 hit hnt hit40 n0 n1 m1 hW4 hW5
    go_upto_region 5 with fail
    try rw [hW5b]
    clear hW5b
    obtain ⟨N, hN⟩ : ∃ N, N = w4.heap.size := ⟨_, rfl⟩
    obtain ⟨NA, hNA⟩ : ∃ NA, NA = w4.heap.size + 1 := ⟨_, rfl⟩
    rw [← hNA, ← hN] at HH0 ⊢
    clear hN hNA
    go_wp2_with fail
    go_loopw [7] (fun i wr => ∃ (k : Nat) (G : Om) (s : AW) (m : Nat) (sl : List (Option Fop)), k ≤ l.length ∧ i = .int .i64 k ∧ FI w B C f N NA k wr G s m sl) (fun i _ => l.length - (intOf i).toNat)
    case atStart => exact ⟨0, G5, s, m, _, Nat.zero_le _, rfl, HH0.out⟩
    case round =>
      clear HH0
      obtain ⟨k, G, s, m, sl, hk, rfl, hr⟩ := hrel
      have HR := Lib.hid hr
      have p0 := hr.p0
      have p1 := hr.p1
      have hk400 : k ≤ 400 := by omega
      clear hr
      by_cases hk2 : k < l.length
      · obtain ⟨b', o', c', he, -, -, hlt, hx⟩ := HL.out.open (by omega) (by omega)
        cases he
        obtain ⟨x, hxe⟩ : ∃ x, x = l[k] := ⟨_, rfl⟩
        have hr : ∀ j, j < 5 → (rowOf factc l)[k * 5 + j]? = (factc x)[j]? := fun j hj => by rw [hxe]; exact rowOf_get (f := factc) (fun _ => rfl) l k j hk2 hj
        have hv : ∀ j u, j < 5 → (factc x)[j]? = some u → wr.cell? ⟨b', o' + k * 5 + j, none⟩ = some u := fun j u hj hu => by
          have := (HR.out.env.bel.cell (p := ⟨b', o' + (k * 5 + j), none⟩) hlt).trans (hx _ _ ((hr j hj).trans hu))
          rwa [Nat.add_assoc]
        have v0 := hv 0 _ (by omega) rfl
        have v1 := hv 1 _ (by omega) rfl
        have v2 := hv 2 _ (by omega) rfl
        have v3 := hv 3 _ (by omega) rfl
        have v4 := hv 4 _ (by omega) rfl
        rw [Nat.add_zero] at v0
        have hok := HGL.out x (by rw [hxe]; exact List.getElem_mem _)
        obtain ⟨kd, wh, rf, sa, sv⟩ := x
        obtain ⟨k0, k1, h0, h1, r0, r1, a0, a1, u0, u1⟩ := hok
        dsimp only at v0 v1 v2 v3 v4 k0 k1 h0 h1 r0 r1 a0 a1 u0 u1
        clear hxe hx hr hv
        obtain ⟨j, hwj⟩ : ∃ j : Nat, wh % 4 = (j : Int) := ⟨(wh % 4).toNat, by omega⟩
        have hj4 : j < 4 := by omega
        have hj0 : (0 : Int) ≤ (j : Int) := by omega
        have hj1 : (j : Int) < 4 := by omega
        obtain ⟨W2, hW2⟩ : ∃ W2, W2 = wr.alloc (.cells #[.int .u8 kd, .int .u8 wh, .int .i64 rf, .int .u64 sa, .int .u64 sv] 69) := ⟨_, rfl⟩
        have b2 : Below wr.heap.size wr W2 := by rw [hW2]; exact (Below.refl _ _).alloc (Nat.le_refl _) _
        have HR2 := Lib.hid (HR.out.below b2)
        have q0 : W2.cell? ⟨wr.heap.size, 0, none⟩ = some (.int .u8 kd) := by rw [hW2]; simp
        have q1 : W2.cell? ⟨wr.heap.size, 1, none⟩ = some (.int .u8 wh) := by rw [hW2]; simp
        have q2 : W2.cell? ⟨wr.heap.size, 2, none⟩ = some (.int .i64 rf) := by rw [hW2]; simp
        have q3 : W2.cell? ⟨wr.heap.size, 3, none⟩ = some (.int .u64 sa) := by rw [hW2]; simp
        have q4 : W2.cell? ⟨wr.heap.size, 4, none⟩ = some (.int .u64 sv) := by rw [hW2]; simp
        have ql : wr.heap.size < W2.heap.size := by rw [hW2]; simp
        have qo : Hid (G wr.heap.size = 0) := Lib.hid (zero_own HR.out.env.hi (Nat.le_refl _))
        by_cases h0 : kd % 10 = 0
        · have d0 : (kd % 10 == 0) = true := by simp [h0]
          clear h0
          go_upto_region 12 with fail
          rw [← hW2]
          clear hW2 v0 v1 v2 v3 v4
          obtain ⟨u, hu⟩ : ∃ u, sl[j]? = some u := ⟨_, List.getElem?_eq_getElem (by rw [HR2.out.len]; exact hj4)⟩
          obtain ⟨hjl, hje⟩ := List.getElem?_eq_some_iff.1 hu
          obtain ⟨va, vb, hvab⟩ : ∃ va vb, fopc u = [va, vb] := by cases u with | none => exact ⟨_, _, rfl⟩ | some q => exact ⟨_, _, rfl⟩
          have HV := Lib.hid hvab
          clear hvab hu
          have D2 : Hid (Ext (fun t => 10 + 8 * j ≤ t ∧ t ≤ 15 + 8 * j) G W2 G W2.drew) := Lib.hid (Ext.of_below HR2.out.env.hi (drew_below W2))
          have HA := Lib.hid (c_NewFlush W2.drew G (10 + 8 * j) j rf (by omega) (by omega) D2.out.hi)
          have HB := Lib.hid (c_rFNew W2.drew G (14 + 8 * j) j rf (by omega) (by omega) D2.out.hi)
          have hnx : wr.heap.size ≠ NA := fun e => by have h9 := HR2.out.ar.o; rw [← e, qo.out] at h9; exact absurd h9 (by decide)
          go_cut [] (fun wx => ∃ (G' : Om) (q : Fop), FI w B C f N NA (k + 1) wx G' s m (sl.set j (some q)))
          case first =>
            go_region_held3 (fun w' => w'.cell? ⟨wr.heap.size, 2, none⟩ = some (.int .i64 rf)) ((first | assumption | exact keepB ql q2 (drew_below _) | exact ((set_far (.inl hnx)).trans ((set_far (.inl hnx)).trans s6)) | go_keep))
              ((first
                | (go_at_call 24
                   refine HA.out.mono ?_
                   rintro e w5 ⟨b, rfl, G5, e5, f5⟩
                   have E5 := D2.out.trans (e5.mono (T := fun t => 10 + 8 * j ≤ t ∧ t ≤ 15 + 8 * j) fun t _ h => by omega)
                   have s5 := (E5.nob (by omega) ql qo.out 2).trans q2
                   have HE5 := Lib.hid E5
                   have HF5 := Lib.hid f5
                   clear E5 f5 e5)
                | (go_at_call 25
                   refine (c_rFNew w5 G5 (14 + 8 * j) j rf (by omega) (by omega) HE5.out.hi).mono ?_
                   rintro e w6 ⟨R, T, rfl, G6, e6, r6⟩
                   have HE6 := Lib.hid (HE5.out.trans (e6.mono (T := fun t => 10 + 8 * j ≤ t ∧ t ≤ 15 + 8 * j) fun t _ h => by omega))
                   have a6 := HR2.out.ar.ext HE6.out (by omega)
                   have c0' := a6.c (j * 2 + 0) _ ((rowOf_get fopc_len sl j 0 hjl (by omega)).trans (by rw [hje, HV.out]; rfl))
                   have c1' := a6.c (j * 2 + 1) _ ((rowOf_get fopc_len sl j 1 hjl (by omega)).trans (by rw [hje, HV.out]; rfl))
                   rw [Nat.add_zero] at c0'
                   have d0' := a6.f (j * 2)
                   have d1' := a6.f (j * 2 + 1)
                   have s6 := (HE6.out.nob (by omega) ql qo.out 2).trans q2
                   have HF6 := Lib.hid (HF5.out.ext e6 (by omega) (by omega) (by omega) (by omega))
                   have HD6 := Lib.hid (r6)
                   clear a6
                   clear e6 r6)
                | (go_at_call 25
                   refine HB.out.mono ?_
                   rintro e w5' ⟨R, T, rfl, G5, e5, f5⟩
                   have E5 := D2.out.trans (e5.mono (T := fun t => 10 + 8 * j ≤ t ∧ t ≤ 15 + 8 * j) fun t _ h => by omega)
                   have s5 := (E5.nob (by omega) ql qo.out 2).trans q2
                   have HE5 := Lib.hid E5
                   have HF5 := Lib.hid f5
                   clear E5 f5 e5)
                | (go_at_call 24
                   refine (c_NewFlush w5' G5 (10 + 8 * j) j rf (by omega) (by omega) HE5.out.hi).mono ?_
                   rintro e w6 ⟨b, rfl, G6, e6, r6⟩
                   have HE6 := Lib.hid (HE5.out.trans (e6.mono (T := fun t => 10 + 8 * j ≤ t ∧ t ≤ 15 + 8 * j) fun t _ h => by omega))
                   have a6 := HR2.out.ar.ext HE6.out (by omega)
                   have c0' := a6.c (j * 2 + 0) _ ((rowOf_get fopc_len sl j 0 hjl (by omega)).trans (by rw [hje, HV.out]; rfl))
                   have c1' := a6.c (j * 2 + 1) _ ((rowOf_get fopc_len sl j 1 hjl (by omega)).trans (by rw [hje, HV.out]; rfl))
                   rw [Nat.add_zero] at c0'
                   have d0' := a6.f (j * 2)
                   have d1' := a6.f (j * 2 + 1)
                   have s6 := (HE6.out.nob (by omega) ql qo.out 2).trans q2
                   have HF6 := Lib.hid (r6)
                   have HD6 := Lib.hid (HF5.out.ext e6 (by omega) (by omega))
                   clear a6
                   clear e6 r6)))
            all_goals
              go_wp2_with fail
              go_meet
              exact ⟨G6, ⟨b, R, T, rf, flNew⟩, (FI.new (q := ⟨b, R, T, rf, flNew⟩) HR2.out hj4 HE6.out HF6.out HD6.out (show flNew.ok from ⟨by decide, fun _ => .inl rfl⟩) r0 r1 rfl).1⟩
          case rest =>
            obtain ⟨G', q, hri⟩ := hcut
            have hjq : (sl.set j (some q))[j]? = some (some q) := List.getElem?_set_self hjl
            have c0 := hri.cells j (some q) hjq 0 (by decide) _ rfl
            have c1 := hri.cells j (some q) hjq 1 (by decide) _ rfl
            rw [Nat.add_zero] at c0
            have hq := hri.ops j q hjq
            have HS := Lib.hid (c_same27 hq.f hq.r hq.ok)
            have HR5 := Lib.hid hri
            clear hri hq hjq p0 p1 q0 q1 q2 q3 q4 ql HR2 HR HA HB
            go_wp2_with fail
            refine HS.out.mono ?_
            rintro e w5 ⟨rfl, hb5⟩
            have HRn := Lib.hid (HR5.out.below hb5)
            clear hb5 HR5 HS c0 c1
            have p0 := HRn.out.p0
            have p1 := HRn.out.p1
            go_wp2_with fail
            refine (c_PSame HRn.out.pr HRn.out.env.hi (by have := HRn.out.m1; omega)).mono ?_
            rintro e w9 ⟨rfl, hb9⟩
            have HR9 := Lib.hid (HRn.out.below hb9)
            clear hb9 p0 p1 HRn
            go_wp2_with fail
            go_roundw
            case rel => exact ⟨k + 1, _, _, _, _, by omega, by go_num, HR9.out⟩
            case measure => simp [intOf]; omega
        · have d0 : (kd % 10 == 0) = false := by simp [h0]
          by_cases h1 : kd % 10 = 1
          · have d1 : (kd % 10 == 1) = true := by simp [h1]
            clear h0 h1
            go_upto_region 16 with fail
            rw [← hW2]
            clear hW2
            have p0 := HR2.out.p0
            have p1 := HR2.out.p1
            clear v0 v1 v2 v3 v4
            go_wp2_with fail
            refine (c_PStore sa sv HR2.out.pr HR2.out.env.hi (by have := HR2.out.m1; omega) a0 (by omega) u0 (by omega) HR2.out.n0 (by have := HR2.out.n1; omega)).mono ?_
            rintro e w5 ⟨rfl, G5, e5, P5⟩
            have HRn := Lib.hid (HR2.out.sp e5 P5 (by show 0 ≤ s.n + 1; have := HR2.out.n0; omega) (by show s.n + 1 ≤ _; have := HR2.out.n1; omega) (by have := HR2.out.m1; omega) HR2.out.hit HR2.out.hnt)
            clear e5 P5 p0 p1 q0 q1 q2 q3 q4 HR2 HR
            have p0 := HRn.out.p0
            have p1 := HRn.out.p1
            go_wp2_with fail
            refine (c_PSame HRn.out.pr HRn.out.env.hi (by have := HRn.out.m1; omega)).mono ?_
            rintro e w9 ⟨rfl, hb9⟩
            have HR9 := Lib.hid (HRn.out.below hb9)
            clear hb9 p0 p1 HRn
            go_wp2_with fail
            go_roundw
            case rel => exact ⟨k + 1, _, _, _, _, by omega, by go_num, HR9.out⟩
            case measure => simp [intOf]; omega
          · have d1 : (kd % 10 == 1) = false := by simp [h1]
            by_cases h2 : kd % 10 = 2
            · have d2 : (kd % 10 == 2) = true := by simp [h2]
              clear h0 h1 h2
              go_upto_region 18 with fail
              rw [← hW2]
              clear hW2
              have p0 := HR2.out.p0
              have p1 := HR2.out.p1
              clear v0 v1 v2 v3 v4
              go_wp2_with fail
              refine (c_PTick HR2.out.pr HR2.out.env.hi (by have := HR2.out.m1; omega) HR2.out.n0 (by have := HR2.out.n1; omega)).mono ?_
              rintro e w5 ⟨rfl, G5, e5, P5⟩
              have HRn := Lib.hid (HR2.out.sp e5 P5 (by show 0 ≤ s.n + 1; have := HR2.out.n0; omega) (by show s.n + 1 ≤ _; have := HR2.out.n1; omega) (by have := HR2.out.m1; omega) HR2.out.hit HR2.out.hnt)
              clear e5 P5 p0 p1 q0 q1 q2 q3 q4 HR2 HR
              have p0 := HRn.out.p0
              have p1 := HRn.out.p1
              go_wp2_with fail
              refine (c_PSame HRn.out.pr HRn.out.env.hi (by have := HRn.out.m1; omega)).mono ?_
              rintro e w9 ⟨rfl, hb9⟩
              have HR9 := Lib.hid (HRn.out.below hb9)
              clear hb9 p0 p1 HRn
              go_wp2_with fail
              go_roundw
              case rel => exact ⟨k + 1, _, _, _, _, by omega, by go_num, HR9.out⟩
              case measure => simp [intOf]; omega
            · have d2 : (kd % 10 == 2) = false := by simp [h2]
              by_cases h3 : kd % 10 = 3
              · have d3 : (kd % 10 == 3) = true := by simp [h3]
                clear h0 h1 h2 h3
                go_upto_region 20 with fail
                rw [← hW2]
                clear hW2
                have p0 := HR2.out.p0
                have p1 := HR2.out.p1
                clear v0 v1 v2 v3 v4
                go_wp2_with fail
                refine (c_PStore 8 sv HR2.out.pr HR2.out.env.hi (by have := HR2.out.m1; omega) (by decide) (by decide) u0 (by omega) HR2.out.n0 (by have := HR2.out.n1; omega)).mono ?_
                rintro e w5 ⟨rfl, G5, e5, P5⟩
                have HRn := Lib.hid (HR2.out.sp e5 P5 (by show 0 ≤ s.n + 1; have := HR2.out.n0; omega) (by show s.n + 1 ≤ _; have := HR2.out.n1; omega) (by have := HR2.out.m1; omega) HR2.out.hit HR2.out.hnt)
                clear e5 P5 p0 p1 q0 q1 q2 q3 q4 HR2 HR
                have p0 := HRn.out.p0
                have p1 := HRn.out.p1
                go_wp2_with fail
                refine (c_PSame HRn.out.pr HRn.out.env.hi (by have := HRn.out.m1; omega)).mono ?_
                rintro e w9 ⟨rfl, hb9⟩
                have HR9 := Lib.hid (HRn.out.below hb9)
                clear hb9 p0 p1 HRn
                go_wp2_with fail
                go_roundw
                case rel => exact ⟨k + 1, _, _, _, _, by omega, by go_num, HR9.out⟩
                case measure => simp [intOf]; omega
              · have d3 : (kd % 10 == 3) = false := by simp [h3]
                clear h0 h1 h2 h3
                obtain ⟨u, hu⟩ : ∃ u, sl[j]? = some u := ⟨_, List.getElem?_eq_getElem (by rw [HR2.out.len]; exact hj4)⟩
                cases u with
                | none =>
                  have c1 := HR2.out.cells j none hu 1 (by decide) _ rfl
                  clear hu
                  go_upto_region 21 with fail
                  rw [← hW2]
                  clear hW2 v0 v1 v2 v3 v4 p0 p1
                  go_upto_region 26 with fail
                  have HRn := Lib.hid (HR2.out.up (Nat.le_succ k))
                  clear HR2 HR q0 q1 q2 q3 q4 c1
                  have p0 := HRn.out.p0
                  have p1 := HRn.out.p1
                  go_wp2_with fail
                  refine (c_PSame HRn.out.pr HRn.out.env.hi (by have := HRn.out.m1; omega)).mono ?_
                  rintro e w9 ⟨rfl, hb9⟩
                  have HR9 := Lib.hid (HRn.out.below hb9)
                  clear hb9 p0 p1 HRn
                  go_wp2_with fail
                  go_roundw
                  case rel => exact ⟨k + 1, _, _, _, _, by omega, by go_num, HR9.out⟩
                  case measure => simp [intOf]; omega
                | some q =>
                  have c0 := HR2.out.cells j (some q) hu 0 (by decide) _ rfl
                  have c1 := HR2.out.cells j (some q) hu 1 (by decide) _ rfl
                  rw [Nat.add_zero] at c0
                  obtain ⟨X, hX⟩ : ∃ X, X = q.b.X := ⟨_, rfl⟩
                  obtain ⟨R, hR⟩ : ∃ R, R = q.R := ⟨_, rfl⟩
                  rw [← hX] at c0
                  rw [← hR] at c1
                  have HX := Lib.hid (And.intro hX hR)
                  have HU := Lib.hid hu
                  clear hu hX hR
                  go_upto_region 21 with fail
                  rw [← hW2]
                  clear hW2 v0 v1 v2 v3 v4 p0 p1
                  go_upto_region 23 with fail
                  obtain ⟨W3, hW3⟩ : ∃ W3, W3 = W2.alloc (.cells #[.pointer (some ⟨X, 0, none⟩), .pointer (some ⟨R, 0, none⟩)] 66) := ⟨_, rfl⟩
                  have b3 : Below W2.heap.size W2 W3 := by rw [hW3]; exact (Below.refl _ _).alloc (Nat.le_refl _) _
                  have s0 : W3.cell? ⟨W2.heap.size, 0, none⟩ = some (.pointer (some ⟨X, 0, none⟩)) := by rw [hW3]; simp
                  have s1 : W3.cell? ⟨W2.heap.size, 1, none⟩ = some (.pointer (some ⟨R, 0, none⟩)) := by rw [hW3]; simp
                  have s3l : W2.heap.size < W3.heap.size := by rw [hW3]; simp
                  have so : Hid (G W2.heap.size = 0) := Lib.hid (zero_own HR2.out.env.hi (Nat.le_refl _))
                  have HR3 := Lib.hid (HR2.out.below b3)
                  have HQ3 := HR3.out.ops j q HU.out
                  rw [← hW3]
                  clear hW3 q0 q1 q2 q3 q4 b3 HR2 HR c0 c1
                  obtain ⟨Z, hZ⟩ : ∃ Z, Z = flStep j q.d s q.y := ⟨_, rfl⟩
                  have HT := c_rFStep (k := 14 + 8 * j) q.y HR3.out.pr.r HQ3.r HQ3.ok (by have := HR3.out.m1; omega) (by omega) (by omega) HR3.out.env.hi HR3.out.n0 (by have := HR3.out.n1; omega) HQ3.d0 HQ3.d1
                  rw [← hZ, ← HX.out.2] at HT
                  unfold FdPost at HT
                  have HT := Lib.hid HT
                  have HQ3 := Lib.hid HQ3
                  have p0 := HR3.out.p0
                  have p1 := HR3.out.p1
                  have HZ := Lib.hid hZ
                  clear hZ
                  go_wp2_with fail
                  refine HT.out.mono ?_
                  rintro e w5 ⟨rfl, G5, e5, P5, x5⟩
                  have n0K : ¬ SD (14 + 8 * j) (14 + 8 * j + 2) 0 := fun h => by unfold SD SR at h; omega
                  obtain ⟨ln', hln⟩ : ∃ ln' : Int, ln' = (Z.2.ln : Int) := ⟨_, rfl⟩
                  have hlc := x5.x.c 0 _ rfl
                  rw [← hln] at hlc
                  have hll := x5.x.lt
                  have hRo := Lib.hid x5.x.o
                  obtain ⟨b, hb⟩ : ∃ b, b = decide (Z.2.ln = 0) := ⟨_, rfl⟩
                  have hov : (ln' == 0) = b := by rw [hb, hln, Bool.eq_iff_iff]; simp
                  have P5' := Lib.hid P5
                  have X5' := Lib.hid x5
                  have E5 := Lib.hid e5
                  have y0 := (e5.nob n0K HR3.out.pN HR3.out.oN 0).trans p0
                  have y1 := (e5.nob n0K HR3.out.pN HR3.out.oN 1).trans p1
                  have z0 := (e5.nob n0K s3l so.out 0).trans s0
                  have z1 := (e5.nob n0K s3l so.out 1).trans s1
                  have hO5 := Lib.hid ((e5.lo _ s3l).trans so.out)
                  have hN5 : N < w5.heap.size := Nat.lt_of_lt_of_le HR3.out.pN e5.size
                  have hS5 : W2.heap.size < w5.heap.size := Nat.lt_of_lt_of_le s3l e5.size
                  have ON5 := Lib.hid ((e5.lo _ HR3.out.pN).trans HR3.out.oN)
                  have D5 : Ext (SX (10 + 8 * j) (10 + 8 * j + 3)) G5 w5 G5 w5.drew := Ext.of_below e5.hi (drew_below w5)
                  have HPT := c_FStep (b := q.b) (k := 10 + 8 * j) (t := j) (d := q.d) q.y ((HR3.out.pr.p.ext e5 (fun h => by unfold SD SR at h; omega) (fun h => by unfold SD SR at h; omega) (fun h => by unfold SD SR at h; omega) (fun h => by unfold SD SR at h; omega)).below e5.hi (drew_below w5)) ((HQ3.out.f.ext e5 (fun h => by unfold SD SR at h; omega) (fun h => by unfold SD SR at h; omega) (fun h => by unfold SD SR at h; omega) (fun h => by unfold SD SR at h; omega)).below (drew_below w5)) HQ3.out.ok (by omega) (by omega) D5.hi HR3.out.n0 (by have := HR3.out.n1; omega) HQ3.out.d0 HQ3.out.d1
                  rw [← HZ.out, ← HX.out.1, ← hb] at HPT
                  unfold FPost at HPT
                  have HPT := Lib.hid HPT
                  have D5 := Lib.hid D5
                  clear hb hln n0K P5 e5 x5 s0 s1 p0 p1 HT
                  go_upto_region 24 with fail
                  go_region_held3 (fun w' => w'.cell? ⟨N, 0, none⟩ = some (.pointer (some ⟨B.p, 0, none⟩)) ∧ w'.cell? ⟨N, 1, none⟩ = some (.pointer (some ⟨C.p, 0, none⟩)) ∧ w'.cell? ⟨W2.heap.size, 0, none⟩ = some (.pointer (some ⟨X, 0, none⟩)) ∧ w'.cell? ⟨W2.heap.size, 1, none⟩ = some (.pointer (some ⟨R, 0, none⟩)) ∧ w'.cell? ⟨R, 0, none⟩ = some (.int .i64 ln'))
                    (first | assumption | exact ⟨keepB hN5 y0 (drew_below _), keepB hN5 y1 (drew_below _), keepB hS5 z0 (drew_below _), keepB hS5 z1 (drew_below _), keepB hll hlc (drew_below _)⟩ | exact ⟨a0', a1', a2', a3', a4'⟩ | exact ⟨c0', c1', c2', c3', c4'⟩ | go_keep)
                    ((first
                      | (go_at_call 29
                         refine HPT.out.mono ?_
                         rintro e w6 ⟨rfl, G6, e6, P6, x6⟩
                         have hsx0 : ¬ SX (10 + 8 * j) (10 + 8 * j + 3) 0 := fun h => by unfold SX at h; omega
                         have e56 := D5.out.trans e6
                         have a0' := (e56.nob hsx0 hN5 ON5.out 0).trans y0
                         have a1' := (e56.nob hsx0 hN5 ON5.out 1).trans y1
                         have a2' := (e56.nob hsx0 hS5 hO5.out 0).trans z0
                         have a3' := (e56.nob hsx0 hS5 hO5.out 1).trans z1
                         have a4' := (e56.cell (p := ⟨R, 0, none⟩) hll (by show ¬ SX _ _ (G5 R); rw [hRo.out]; exact SX.not (by omega) (by omega))).trans hlc
                         have hS6 : W2.heap.size < w6.heap.size := Nat.lt_of_lt_of_le hS5 e56.size
                         have hR6 : R < w6.heap.size := Nat.lt_of_lt_of_le hll e56.size
                         have P5'' := P5'.out
                         have X5'' := X5'.out
                         rw [HZ.out] at P5'' X5'' P6 x6
                         rw [HX.out.2] at X5''
                         obtain ⟨q', hq', ex, eR, hri⟩ := HR3.out.step HU.out E5.out P5'' X5'' e56 P6 x6
                         have HSM := c_same27 hq'.f hq'.r hq'.ok
                         rw [ex, eR, ← HX.out.1, ← HX.out.2] at HSM
                         have HSM := Lib.hid HSM
                         have HR7 := Lib.hid hri
                         have hN6 := hri.pN
                         clear hq' ex eR hri P6 x6 P5'' X5'' e6 e56 hsx0)
                      | (go_at_call 26
                         refine HSM.out.mono ?_
                         rintro e w7 ⟨rfl, hb7⟩
                         have c0' := keepB hN6 a0' hb7
                         have c1' := keepB hN6 a1' hb7
                         have c2' := keepB hS6 a2' hb7
                         have c3' := keepB hS6 a3' hb7
                         have c4' := keepB hR6 a4' hb7
                         have HRn := Lib.hid (HR7.out.below hb7)
                         clear hb7)))
                  all_goals
                    clear a0' a1' a2' a3' a4' c0' c1' c2' c3' c4' y0 y1 z0 z1
                    have p0 := HRn.out.p0
                    have p1 := HRn.out.p1
                    go_wp2_with fail
                    refine (c_PSame HRn.out.pr HRn.out.env.hi (by have := HRn.out.m1; omega)).mono ?_
                    rintro e w9 ⟨rfl, hb9⟩
                    have HR9 := Lib.hid (HRn.out.below hb9)
                    clear hb9 p0 p1 HRn
                    go_wp2_with fail
                    go_roundw
                    case rel => exact ⟨k + 1, _, _, _, _, by omega, by go_num, HR9.out⟩
                    case measure => simp [intOf]; omega
      · obtain rfl : k = l.length := by omega
        have HB := Lib.hid HR.out.env.bel
        go_wp2_with fail
        refine (c_PSameAll HR.out.pr HR.out.env.hi (by have := HR.out.m1; omega) HR.out.hnt (by have := HR.out.hit; omega)).mono ?_
        rintro e w5 ⟨rfl, hb5⟩
        have HB5 := Lib.hid (HB.out.trans (hb5.mono HB.out.size))
        clear hb5 p0 p1
        go_wp2_with fail
        refine (c_lives27 w5).mono ?_
        rintro e w6 ⟨rfl, hb6⟩
        have HB6 := Lib.hid (HB5.out.trans (hb6.mono HB5.out.size))
        clear hb6
        go_wp2_with fail
        go_ret
        exact ⟨rfl, HB6.out⟩
end Go.Proofs.YtijifjiehldcaaaGreat
