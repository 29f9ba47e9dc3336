/- Layer 24: nestboxlaw24.lives. -/
import Derived.Test.YtlcibfpibklbdaaGreatViC
namespace Go.Proofs.YtlcibfpibklbdaaGreat
set_option linter.unusedSimpArgs false
open Go.RowKit Go.Shelf
set_option linter.unusedVariables false

set_option maxHeartbeats 1000000 in
set_option maxRecDepth 100000 in
theorem c_lwSpot21 (i : Int) (w : World) (hi : i = 0 ∨ i = 1 ∨ i = 2 ∨ i = 3) : Calls Tryz.prog 70 #[.int .i64 2, .int .i64 1, .int .i64 i] w fun e w' => e = .returned (.agg #[.int .i64 2, .int .i64 1, .int .i64 i]) ∧ Below w.heap.size w w' := by
  have h2 : fnvSize 2 = 4 := by decide
  rcases hi with rfl | rfl | rfl | rfl
  all_goals
    go_enter Tryz.func70, Tryz.ntmps70
    go_wp2_with fail
    refine (c_Size 2 _ (by decide) (by decide)).mono ?_
    rintro e w' ⟨rfl, rfl⟩
    rw [h2]
    go_wp2_with fail
    first
    | exact bodyPost_ret (v := .agg #[.int .i64 2, .int .i64 1, .int .i64 0]) (by simp [results, Tryz.results70, go_sem]) rfl ⟨rfl, by (repeat (first | exact Below.refl _ _ | exact (Below.refl _ _).alloc (Nat.le_refl _) _ | (with_reducible refine below_setCell' ?_ (by omega) _ _) | (with_reducible refine Below.drew ?_)))⟩
    | exact bodyPost_ret (v := .agg #[.int .i64 2, .int .i64 1, .int .i64 1]) (by simp [results, Tryz.results70, go_sem]) rfl ⟨rfl, by (repeat (first | exact Below.refl _ _ | exact (Below.refl _ _).alloc (Nat.le_refl _) _ | (with_reducible refine below_setCell' ?_ (by omega) _ _) | (with_reducible refine Below.drew ?_)))⟩
    | exact bodyPost_ret (v := .agg #[.int .i64 2, .int .i64 1, .int .i64 2]) (by simp [results, Tryz.results70, go_sem]) rfl ⟨rfl, by (repeat (first | exact Below.refl _ _ | exact (Below.refl _ _).alloc (Nat.le_refl _) _ | (with_reducible refine below_setCell' ?_ (by omega) _ _) | (with_reducible refine Below.drew ?_)))⟩
    | exact bodyPost_ret (v := .agg #[.int .i64 2, .int .i64 1, .int .i64 3]) (by simp [results, Tryz.results70, go_sem]) rfl ⟨rfl, by (repeat (first | exact Below.refl _ _ | exact (Below.refl _ _).alloc (Nat.le_refl _) _ | (with_reducible refine below_setCell' ?_ (by omega) _ _) | (with_reducible refine Below.drew ?_)))⟩
theorem spt2_ok (i : Nat) (h : i < 4) : (⟨2, 1, i⟩ : Spt).ok := by
  have h : i = 0 ∨ i = 1 ∨ i = 2 ∨ i = 3 := by omega
  rcases h with rfl | rfl | rfl | rfl <;> (constructor <;> decide)
theorem lvA_succ (i : Nat) : lvA (i + 1) = if i < 2 then awStore (plRef ((i : Int) + 1)) 1 (runN ptOver (fun z => putStep ⟨2, 1, i⟩ 9 ((i : Int) + 1) z.1 z.2) 9 (lvA i, ⟨0, 0⟩)).2.1 else (runN ptOver (fun z => putStep ⟨2, 1, i⟩ 9 ((i : Int) + 1) z.1 z.2) 9 (lvA i, ⟨0, 0⟩)).2.1 := rfl
theorem lvP_n : ∀ i : Nat, i < 4 → 0 ≤ (runN ptOver (fun z => putStep ⟨2, 1, i⟩ 9 ((i : Int) + 1) z.1 z.2) 9 (lvA i, ⟨0, 0⟩)).2.1.n ∧ (runN ptOver (fun z => putStep ⟨2, 1, i⟩ 9 ((i : Int) + 1) z.1 z.2) 9 (lvA i, ⟨0, 0⟩)).2.1.n ≤ 1000 := by decide +kernel
theorem lvH_bd : (0 : Int) ≤ 216172782113783809 ∧ (216172782113783809 : Int) < 18446744073709551616 := by decide
theorem sk0 {k : Nat} (h : 10 ≤ k) : ¬ (k ≤ 0 ∧ 0 ≤ k + 14) := by omega
set_option maxHeartbeats 8000000 in
set_option maxRecDepth 100000 in
theorem c_lives24 (w : World) : Calls Tryz.prog 34 #[] w fun e w' => e = .returned (.bool true) ∧ Below w.heap.size w w' := by
  have FF := Lib.hid lv_f
  have NN := Lib.hid lv_n
  have NT := Lib.hid lv_nt
  go_enter Tryz.func34, Tryz.ntmps34
  go_wp2_with fail
  refine (c_WorldP 2 w (by decide) (by decide)).mono ?_
  rintro e w1 ⟨B, O1, rfl, hP, hE⟩
  have P1 := Lib.hid hP
  have E1 := Lib.hid hE
  clear hP hE
  go_wp2_with fail
  refine (c_NewVictim (k := 10) 2 216172782113783809 (by decide) (by decide) (by decide) (by decide) (by decide) E1.out.hi).mono ?_
  rintro e w2 ⟨X1, rfl, O2, e2, x2⟩
  have P2 := P1.out.ext e2 (by decide) (by decide) (by decide) (by decide)
  have E2 := Lib.hid (E1.out.ext e2)
  have HR := Lib.hid (c_VcRun (k := 10) X1 (vcNew 2 216172782113783809) 9 P2 x2 (vcNew_ok _ _ (by decide) (by decide)) (by decide) E2.out.hi (by decide) (by decide))
  clear e2 x2 P2 P1 E1
  go_wp2_with fail
  refine HR.out.mono ?_
  rintro e w3 ⟨rfl, O3, e3, P3, x3, k3⟩
  have h1 : (runN vcOver vcStep 9 (aw0 2, vcNew 2 216172782113783809)).1 = 1 := FF.out.1
  rw [h1]
  have E3 := Lib.hid (E2.out.ext e3)
  have P3 : Hid (PW w3 O3 B ⟨2, 8, 3, 1, 16⟩ (lvA 0)) := Lib.hid P3
  have hg1 : vcGot (runN vcOver vcStep 9 (aw0 2, vcNew 2 216172782113783809)).2.2 = (⟨2, 1, 0⟩, true) := FF.out.2.1
  have HG := c_VcGot x3
  rw [hg1] at HG
  dsimp only [sptV] at HG
  have HG := Lib.hid HG
  clear e3 x3 k3 h1 hg1 HR E2
  go_wp2_with fail
  refine HG.out.mono ?_
  rintro e w4 ⟨rfl, hb4⟩
  have E4 := Lib.hid (E3.out.ext (Ext.of_below (S := SW) E3.out.hi hb4))
  have P4 := Lib.hid (P3.out.below E3.out.hi hb4)
  obtain ⟨e5, t5⟩ := alloc_nbH (S := SW) E4.out.hi #[.int .i64 2, .int .i64 1, .int .i64 0] 45 w4.heap.size rfl
  have P5 := Lib.hid (P4.out.below E4.out.hi ((Below.refl _ _).alloc (Nat.le_refl _) (.cells #[.int .i64 2, .int .i64 1, .int .i64 0] 45)))
  have E5 := Lib.hid (E4.out.ext e5)
  have T5 := Lib.hid t5
  clear hb4 e5 t5 HG P3 E3 P4 E4
  go_wp2_with fail
  obtain ⟨W5, hW5⟩ : ∃ W, W = w4.alloc (.cells #[.int .i64 2, .int .i64 1, .int .i64 0] 45) := ⟨_, rfl⟩
  rw [← hW5] at P5 E5 T5 ⊢
  clear hW5
  obtain ⟨n4, hn4⟩ : ∃ n, n = w4.heap.size := ⟨_, rfl⟩
  rw [← hn4] at T5 ⊢
  clear hn4
  go_loopw [6] (fun iv wr => ∃ (i : Nat) (G : Om), iv = .int .i64 i ∧ i ≤ 4 ∧ PW wr G B ⟨2, 8, 3, 1, 16⟩ (lvA i) ∧ Env w G wr ∧ Ob wr G 0 n4 [.int .i64 2, .int .i64 1, .int .i64 0]) (fun iv _ => 4 - (intOf iv).toNat)
  case atStart => exact ⟨0, O3, rfl, by omega, P5.out, E5.out, T5.out⟩
  case round =>
    clear P5 E5 T5
    obtain ⟨i, G, rfl, hi, hP, hE, hT⟩ := hrel
    have P5 := Lib.hid hP
    have E5 := Lib.hid hE
    have T5 := Lib.hid hT
    clear hP hE hT
    by_cases hi4 : i < 4
    · have hc : i = 0 ∨ i = 1 ∨ i = 2 ∨ i = 3 := by omega
      have HSU := Lib.hid (lvA_succ i)
      have HSO := Lib.hid (spt2_ok i hi4)
      have HPN := Lib.hid (lvP_n i hi4)
      have HAN := Lib.hid (NN.out.2.1 i (by omega))
      rcases hc with rfl | rfl | rfl | rfl
      all_goals
        go_wp2_with fail
        refine (c_lwSpot21 _ _ (by decide)).mono ?_
        rintro e w6 ⟨rfl, hb6⟩
        have P6 := Lib.hid (P5.out.below E5.out.hi hb6)
        have E6 := Lib.hid (E5.out.ext (Ext.of_below (S := SW) E5.out.hi hb6))
        have T6 := Lib.hid (T5.out.below hb6)
        clear hb6
        go_wp2_with fail
        refine (c_NewPut (k := 10) HSO.out E6.out.hi (by decide) (by decide) (by decide) (by decide)).mono ?_
        rintro e w7 ⟨U, rfl, O7, e7, u7⟩
        have P7 := P6.out.ext e7 (by decide) (by decide) (by decide) (by decide)
        have E7 := Lib.hid (E6.out.ext e7)
        have T7 := Lib.hid (T6.out.ext e7 (by decide))
        have HR := Lib.hid (c_PuRun (k := 10) U _ 9 _ 9 P7 u7 HSO.out (by decide) E7.out.hi HAN.out.1 (by have := HAN.out.2; omega) (by decide) (by decide) (by decide) (by decide))
        clear e7 u7 P7
        go_wp2_with fail
        refine HR.out.mono ?_
        rintro e w8 ⟨rfl, O8, e8, P8⟩
        have E8 := Lib.hid (E7.out.ext e8)
        have T8 := Lib.hid (T7.out.ext e8 (sx0 (by decide)))
        have P8 := Lib.hid P8
        clear e8 HR P6 E6 T6 E7 T7
      · have hs := HSU.out
        rw [if_pos (by decide)] at hs
        have hrf : plRef 1 = 4294967297 := by decide
        have HSt := c_StoreP (plRef 1) 1 (w := w8.drew) (P8.out.below E8.out.hi (drew_below w8)) (fun j hj => E8.out.hi j hj) (by decide) (by decide) (by decide) (by decide) HPN.out.1 (Int.le_trans HPN.out.2 (by decide))
        rw [hrf] at HSt
        have HSt := Lib.hid HSt
        have HD : Hid (Ext SW O8 w8 O8 w8.drew) := Lib.hid (Ext.of_below E8.out.hi (drew_below w8))
        have p0 := P8.out.wo.c0
        have HHS := Lib.hid hs
        clear hs
        go_wp2_with fail
        go_region_held3 (fun w' => w'.cell? ⟨B.p, 0, none⟩ = some (.pointer (some ⟨B.c, 0, none⟩))) (go_keep)
          ((first
            | (go_at_call 26
               refine (c_Ref 1 _ (by decide) (by decide)).mono ?_
               rintro e w' ⟨rfl, rfl⟩
               rw [hrf])
            | (go_at_call 39
               refine HSt.out.mono ?_
               rintro e w9 ⟨rfl, O9, e9, P9⟩
               have E9 := Lib.hid (E8.out.ext (HD.out.trans e9))
               have T9 := Lib.hid ((T8.out.below (drew_below _)).ext e9 sw0)
               have p09 := P9.wo.c0
               have P9 : Hid (PW w9 O9 B ⟨2, 8, 3, 1, 16⟩ (lvA (0 + 1))) := Lib.hid (by rw [HHS.out]; rw [← hrf] at P9; exact P9)
               clear e9)))
        all_goals
          clear p0 p09
          go_wp2_with fail
          go_roundw
          case rel => exact ⟨0 + 1, O9, rfl, by decide, P9.out, E9.out, T9.out⟩
          case measure => decide
      · have hs := HSU.out
        rw [if_pos (by decide)] at hs
        have hrf : plRef 2 = 4294967298 := by decide
        have HSt := c_StoreP (plRef 2) 1 (w := w8.drew) (P8.out.below E8.out.hi (drew_below w8)) (fun j hj => E8.out.hi j hj) (by decide) (by decide) (by decide) (by decide) HPN.out.1 (Int.le_trans HPN.out.2 (by decide))
        rw [hrf] at HSt
        have HSt := Lib.hid HSt
        have HD : Hid (Ext SW O8 w8 O8 w8.drew) := Lib.hid (Ext.of_below E8.out.hi (drew_below w8))
        have p0 := P8.out.wo.c0
        have HHS := Lib.hid hs
        clear hs
        go_wp2_with fail
        go_region_held3 (fun w' => w'.cell? ⟨B.p, 0, none⟩ = some (.pointer (some ⟨B.c, 0, none⟩))) (go_keep)
          ((first
            | (go_at_call 26
               refine (c_Ref 2 _ (by decide) (by decide)).mono ?_
               rintro e w' ⟨rfl, rfl⟩
               rw [hrf])
            | (go_at_call 39
               refine HSt.out.mono ?_
               rintro e w9 ⟨rfl, O9, e9, P9⟩
               have E9 := Lib.hid (E8.out.ext (HD.out.trans e9))
               have T9 := Lib.hid ((T8.out.below (drew_below _)).ext e9 sw0)
               have p09 := P9.wo.c0
               have P9 : Hid (PW w9 O9 B ⟨2, 8, 3, 1, 16⟩ (lvA (1 + 1))) := Lib.hid (by rw [HHS.out]; rw [← hrf] at P9; exact P9)
               clear e9)))
        all_goals
          clear p0 p09
          go_wp2_with fail
          go_roundw
          case rel => exact ⟨1 + 1, O9, rfl, by decide, P9.out, E9.out, T9.out⟩
          case measure => decide
      · have hs := HSU.out
        rw [if_neg (by decide)] at hs
        have P9 : Hid (PW w8 O8 B ⟨2, 8, 3, 1, 16⟩ (lvA (2 + 1))) := Lib.hid (by rw [hs]; exact P8.out)
        clear hs
        go_wp2_with fail
        go_roundw
        case rel => exact ⟨2 + 1, O8, rfl, by decide, P9.out, E8.out, T8.out⟩
        case measure => decide
      · have hs := HSU.out
        rw [if_neg (by decide)] at hs
        have P9 : Hid (PW w8 O8 B ⟨2, 8, 3, 1, 16⟩ (lvA (3 + 1))) := Lib.hid (by rw [hs]; exact P8.out)
        clear hs
        go_wp2_with fail
        go_roundw
        case rel => exact ⟨3 + 1, O8, rfl, by decide, P9.out, E8.out, T8.out⟩
        case measure => decide
    · have h4 : i = 4 := by omega
      subst h4
      go_wp2_with fail
      refine (c_NewVictim (k := 10) 2 216172782113783809 (by decide) (by decide) (by decide) (by decide) (by decide) E5.out.hi).mono ?_
      rintro e w6 ⟨X2, rfl, O6, e6, x6⟩
      have P6 := P5.out.ext e6 (by decide) (by decide) (by decide) (by decide)
      have E6 := Lib.hid (E5.out.ext e6)
      have T6 := Lib.hid (T5.out.ext e6 (by decide))
      have HA4 := NN.out.2.1 4 (by decide)
      have HR := Lib.hid (c_VcRun (k := 10) X2 (vcNew 2 216172782113783809) 99 P6 x6 (vcNew_ok _ _ (by decide) (by decide)) (by decide) E6.out.hi HA4.1 (by have := HA4.2; omega))
      clear e6 x6 P6 P5 E5 T5 HA4
      go_wp2_with fail
      refine HR.out.mono ?_
      rintro e w7 ⟨rfl, O7, e7, P7, x7, k7⟩
      have h14 : (runN vcOver vcStep 99 (lvA 4, vcNew 2 216172782113783809)).1 = 14 := FF.out.2.2.1
      rw [h14]
      have E7 := Lib.hid (E6.out.ext e7)
      have T7 := Lib.hid (T6.out.ext e7 (sx0 (by decide)))
      have P7 : Hid (PW w7 O7 B ⟨2, 8, 3, 1, 16⟩ lv2.2.1) := Lib.hid P7
      have hg2 : vcGot (runN vcOver vcStep 99 (lvA 4, vcNew 2 216172782113783809)).2.2 = (⟨2, 1, 2⟩, true) := FF.out.2.2.2.1
      have HG := c_VcGot x7
      rw [hg2] at HG
      dsimp only [sptV] at HG
      have HG := Lib.hid HG
      clear e7 x7 k7 h14 hg2 HR E6 T6
      go_wp2_with fail
      refine HG.out.mono ?_
      rintro e w8 ⟨rfl, hb8⟩
      have E8 := Lib.hid (E7.out.ext (Ext.of_below (S := SW) E7.out.hi hb8))
      have P8 := Lib.hid (P7.out.below E7.out.hi hb8)
      have T8 := Lib.hid (T7.out.below hb8)
      obtain ⟨e9, t9⟩ := alloc_nbH (S := SW) E8.out.hi #[.int .i64 2, .int .i64 1, .int .i64 2] 45 w8.heap.size rfl
      have P9 := Lib.hid (P8.out.below E8.out.hi ((Below.refl _ _).alloc (Nat.le_refl _) (.cells #[.int .i64 2, .int .i64 1, .int .i64 2] 45)))
      have E9 := Lib.hid (E8.out.ext e9)
      have V9 := Lib.hid t9
      have T9 := Lib.hid (T8.out.ext e9 sw0)
      obtain ⟨W9, hW9⟩ : ∃ W, W = w8.alloc (.cells #[.int .i64 2, .int .i64 1, .int .i64 2] 45) := ⟨_, rfl⟩
      rw [← hW9] at P9 E9 V9 T9
      have p2 := P9.out.wo.c2
      clear hb8 e9 t9 HG P7 E7 T7 P8 E8 T8
      rw [hW9] at p2
      go_upto_region 16 with fail
      rw [← hW9] at p2 ⊢
      clear hW9
      obtain ⟨n9, hn9⟩ : ∃ n, n = w8.heap.size := ⟨_, rfl⟩
      rw [← hn9] at V9 ⊢
      clear hn9
      obtain ⟨vn, hno, -⟩ := P9.out.no.ex
      have hnt : lv2.2.1.nt.length = 1 := by have := congrArg List.length NT.out; simpa using this
      have HA := c_NtAll B.np vn lv2.2.1.nt W9 hno.head hno.lt (Arr.of_own hno.own) (by rw [hnt]; decide)
      have HA := Lib.hid HA
      have HNT := Lib.hid hnt
      clear hno hnt
      go_wp2_with fail
      refine HA.out.mono ?_
      rintro e w10 ⟨⟨va, rfl, hnew⟩, hb10⟩
      have E10 := Lib.hid (E9.out.ext (Ext.of_below (S := SW) E9.out.hi hb10))
      have P10 := Lib.hid (P9.out.below E9.out.hi hb10)
      have T10 := Lib.hid (T9.out.below hb10)
      have V10 := Lib.hid (V9.out.below hb10)
      obtain ⟨n0, hn0⟩ : ∃ n0 : Nt, lv2.2.1.nt = [n0] := by
        match h : lv2.2.1.nt with
        | [] => rw [h] at HNT; exact absurd HNT.out (by decide)
        | [n0] => exact ⟨n0, rfl⟩
        | _ :: _ :: _ => rw [h] at HNT; exact absurd HNT.out (by simp)
      have hkr := NT.out
      rw [hn0] at hkr hnew
      simp only [List.map_cons, List.map_nil, List.cons.injEq, Prod.mk.injEq, and_true] at hkr
      obtain ⟨hk1, hk2⟩ := hkr
      obtain ⟨av, rfl⟩ := hnew.shape
      obtain ⟨b', o', c', he, -, -, hlt, hx⟩ := hnew.arr.open (by simp) (by decide)
      cases he
      have r2 := hx 2 (.int .u8 1) (by show some (Value.int .u8 n0.kind) = _; rw [hk1])
      have r3 := hx 3 (.int .i64 3) (by show some (Value.int .i64 n0.ref) = _; rw [hk2])
      have hm1 := FF.out.2.2.2.2.1
      have hm2 := FF.out.2.2.2.2.2
      have hrf1 : plRef 1 = 4294967297 := by decide
      have hrf2 : plRef 2 = 4294967298 := by decide
      rw [hrf1] at hm1
      rw [hrf2] at hm2
      obtain ⟨M, hM⟩ : ∃ M, M = lv2.2.1.M := ⟨_, rfl⟩
      rw [← hM] at hm1 hm2
      have HPX : Hid (∀ x, x = 4294967297 ∨ x = 4294967298 → ∀ e, Calls Tryz.prog 16 #[.pointer (some ⟨B.c, 0, none⟩), .int .u64 x] (via w10 e) fun e' w' => e' = .returned (.int .u64 (M x)) ∧ via w10 e = w') := Lib.hid (by
        rw [hM]
        rintro x (rfl | rfl) e
        · exact c_Peek 4294967297 (P10.out.below E10.out.hi (via_below w10 e)).ce (by decide) (by decide)
        · exact c_Peek 4294967298 (P10.out.below E10.out.hi (via_below w10 e)).ce (by decide) (by decide))
      have HRF : Hid ((∀ W, Calls Tryz.prog 26 #[.int .i64 1] W fun e w' => e = .returned (.int .u64 4294967297) ∧ W = w') ∧ (∀ W, Calls Tryz.prog 26 #[.int .i64 2] W fun e w' => e = .returned (.int .u64 4294967298) ∧ W = w')) := Lib.hid ⟨fun W => by have := c_Ref 1 W (by decide) (by decide); rw [hrf1] at this; exact this, fun W => by have := c_Ref 2 W (by decide) (by decide); rw [hrf2] at this; exact this⟩
      have t0 := T10.out.c 0 _ rfl
      have t1 := T10.out.c 1 _ rfl
      have t2 := T10.out.c 2 _ rfl
      have v0 := V10.out.c 0 _ rfl
      have v1 := V10.out.c 1 _ rfl
      have v2 := V10.out.c 2 _ rfl
      have p0 := P10.out.wo.c0
      have lt := T10.out.lt
      have lv := V10.out.lt
      have lp := P10.out.wo.lt
      clear hM hb10 hnew hx HA HNT hrf1 hrf2 hk1 hk2 hn0 NT P9 E9 T9 V9 FF NN
      go_upto_region 17 with fail
      refine wp_region_via (by kernel_rfl) (by kernel_rfl) ?_
      repeat (go_big_quiet_step ((first
        | (go_at_call 26; first | exact viaS (HRF.out.1 _) | exact viaS (HRF.out.2 _))
        | (go_at_call 16; exact viaS (HPX.out _ (by first | exact .inl rfl | exact .inr rfl) _))
        | (go_at_call 70; exact viaB (c_lwSpot21 _ _ (by decide))))))
      refine wpQuiet_nil ?_
      rintro _ ⟨e, rfl⟩
      go_wp2_with fail
      go_ret
      exact ⟨rfl, E10.out.bel.trans ((via_below w10 e).mono E10.out.bel.size)⟩
end Go.Proofs.YtlcibfpibklbdaaGreat
