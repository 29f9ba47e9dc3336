/- Layer 23: nestboxlaw23.lives. -/
import Derived.Test.YtlcibfpibklbdaaGreatHl
import Derived.Test.YtlcibfpibklbdaaGreatSlo
namespace Go.Proofs.YtlcibfpibklbdaaGreat
set_option linter.unusedSimpArgs false
open Go.RowKit Go.Shelf
set_option linter.unusedVariables false

def spCs : List Value := [.int .i64 1, .int .i64 1, .int .i64 2]
theorem spNew {S : Nat → Prop} {O : Om} {w : World} (hhi : ∀ j, O j ≠ 0 → j < w.heap.size) (ty : TypeId) :
    Ext S O w O (w.alloc (.cells #[.int .i64 1, .int .i64 1, .int .i64 2] ty)) ∧ Ob (w.alloc (.cells #[.int .i64 1, .int .i64 1, .int .i64 2] ty)) O 0 w.heap.size spCs := alloc_nbH hhi #[.int .i64 1, .int .i64 1, .int .i64 2] ty w.heap.size rfl
set_option maxHeartbeats 4000000 in
set_option maxRecDepth 100000 in
theorem c_lives23 (w : World) : Calls Tryz.prog 14 #[] w fun e w' => e = .returned (.bool true) ∧ Below w.heap.size w w' := by
  have FF := Lib.hid l23_f
  have NN := Lib.hid l23_n
  have hrf : plRef 5 = 4294967301 := by decide
  go_enter Tryz.func14, Tryz.ntmps14
  go_wp2_with fail
  refine (c_WorldP 1 w (by decide) (by decide)).mono ?_
  rintro e w1 ⟨B, O1, rfl, hP, hE⟩
  have P1 := Lib.hid hP
  have E1 := Lib.hid hE
  clear hP hE
  go_wp2_with fail
  refine (c_lwSpot w1).mono ?_
  rintro e w2 ⟨rfl, hb2⟩
  have P2 := Lib.hid (P1.out.below E1.out.hi hb2)
  have E2 := Lib.hid (E1.out.ext (Ext.of_below (S := SW) E1.out.hi hb2))
  obtain ⟨e3, t3⟩ := spNew (S := SW) E2.out.hi 45
  have P3 := Lib.hid (P2.out.below E2.out.hi ((Below.refl _ _).alloc (Nat.le_refl _) (.cells #[.int .i64 1, .int .i64 1, .int .i64 2] 45)))
  have E3 := Lib.hid (E2.out.ext e3)
  have T3 := Lib.hid t3
  clear hb2 e3 t3
  go_wp2_with fail
  obtain ⟨W3, hW3⟩ : ∃ W3, W3 = w2.alloc (.cells #[.int .i64 1, .int .i64 1, .int .i64 2] 45) := ⟨_, rfl⟩
  rw [← hW3] at P3 E3 T3 ⊢
  clear hW3
  obtain ⟨n3, hn3⟩ : ∃ n3, n3 = w2.heap.size := ⟨_, rfl⟩
  rw [← hn3] at T3 ⊢
  clear hn3 P2 E2 P1 E1
  refine (c_NewPut (k := 10) (p := l23sp) (tg := 9) (rf := 5) l23sp_ok E3.out.hi (by decide) (by decide) (by decide) (by decide)).mono ?_
  rintro e w4 ⟨U, rfl, O4, e4, u4⟩
  have P4 := P3.out.ext e4 (by decide) (by decide) (by decide) (by decide)
  have E4 := Lib.hid (E3.out.ext e4)
  have T4 := Lib.hid (T3.out.ext e4 (by decide))
  have HR := Lib.hid (c_PuRun (k := 10) U l23sp 9 5 9 P4 u4 l23sp_ok (by decide) E4.out.hi (by decide) (by decide) (by decide) (by decide) (by decide) (by decide))
  clear e4 u4 P4
  go_wp2_with fail
  refine HR.out.mono ?_
  rintro e w5 ⟨rfl, O5, e5, P5⟩
  have E5 := Lib.hid (E4.out.ext e5)
  have T5 := Lib.hid (T4.out.ext e5 (sx0 (by decide)))
  have P5 : Hid (PW w5 O5 B ⟨1, 8, 3, 1, 16⟩ l23p.2.1) := Lib.hid P5
  have p05 := P5.out.wo.c0
  have HS5 := Lib.hid (c_StoreP (plRef 5) 1 (w := w5.drew) (P5.out.below E5.out.hi (drew_below w5)) (fun j hj => E5.out.hi j hj) (by decide) (by decide) (by decide) (by decide) NN.out.1.1 (by have := NN.out.1.2; omega))
  rw [hrf] at HS5
  have HD5 : Hid (Ext SW O5 w5 O5 w5.drew) := Lib.hid (Ext.of_below E5.out.hi (drew_below w5))
  clear e5 HR
  go_wp2_with fail
  go_region_held3 (fun w' => w'.cell? ⟨B.p, 0, none⟩ = some (.pointer (some ⟨B.c, 0, none⟩))) (go_keep)
    ((first
      | (go_at_call 26
         refine (c_Ref 5 _ (by decide) (by decide)).mono ?_
         rintro e w' ⟨rfl, rfl⟩
         rw [hrf])
      | (go_at_call 39
         refine HS5.out.mono ?_
         rintro e w6 ⟨rfl, O6, e6, P6⟩
         have E6 := Lib.hid (E5.out.ext (HD5.out.trans e6))
         have T6 := Lib.hid ((T5.out.below (drew_below _)).ext e6 sw0)
         have P6 : Hid (PW w6 O6 B ⟨1, 8, 3, 1, 16⟩ l23s) := Lib.hid (by rw [← hrf] at P6; exact P6)
         have p06 := P6.out.wo.c0
         clear e6)))
  all_goals
    clear p05 p06
    go_wp2_with fail
    refine (c_NewEvict 10 E6.out.hi).mono ?_
    rintro e w7 ⟨X, rfl, O7, e7, x7⟩
    have P7 := P6.out.ext e7 (by decide) (by decide) (by decide) (by decide)
    have E7 := Lib.hid (E6.out.ext e7)
    have T7 := Lib.hid (T6.out.ext e7 (by decide))
    have HR := Lib.hid (c_EvRun (k := 10) X 99 P7 x7 (by decide) E7.out.hi NN.out.2.1 (by have := NN.out.2.2; omega))
    clear e7 x7 P7
    go_wp2_with fail
    refine HR.out.mono ?_
    rintro e w8 ⟨rfl, O8, e8, P8, x8, k8⟩
    have h29 : (runN evOver evStep 99 (l23s, evNew)).1 = 29 := FF.out.1
    rw [h29]
    have E8 := Lib.hid (E7.out.ext e8)
    have T8 := Lib.hid (T7.out.ext e8 (sx0 (by decide)))
    have P8 : Hid (PW w8 O8 B ⟨1, 8, 3, 1, 16⟩ l23e.2.1) := Lib.hid P8
    have HG := c_EvGot (z := l23e.2.2) x8 k8
    rw [FF.out.2.1] at HG
    unfold spV at HG
    rw [FF.out.2.2.1, FF.out.2.2.2.1, FF.out.2.2.2.2.1] at HG
    have HG := Lib.hid HG
    clear e8 x8 k8 h29 HR
    go_wp2_with fail
    refine HG.out.mono ?_
    rintro e w9 ⟨rfl, hb9⟩
    have E9 := Lib.hid (E8.out.ext (Ext.of_below (S := SW) E8.out.hi hb9))
    have T9 := Lib.hid (T8.out.below hb9)
    have P9 := Lib.hid (P8.out.below E8.out.hi hb9)
    obtain ⟨e10, t10⟩ := spNew (S := SW) E9.out.hi 45
    have P10 := Lib.hid (P9.out.below E9.out.hi ((Below.refl _ _).alloc (Nat.le_refl _) (.cells #[.int .i64 1, .int .i64 1, .int .i64 2] 45)))
    have E10 := Lib.hid (E9.out.ext e10)
    have V10 := Lib.hid t10
    have T10 := Lib.hid (T9.out.ext e10 sw0)
    clear hb9 e10 t10 HG
    have i0 := T10.out.c 0 _ rfl
    have i1 := T10.out.c 1 _ rfl
    have i2 := T10.out.c 2 _ rfl
    have HSl := c_Slot (p := l23sp) P10.out l23sp_ok E10.out.hi
    have hs2 : l23sp.s = 2 := rfl
    rw [hs2, FF.out.2.2.2.2.2.1, FF.out.2.2.2.2.2.2.1] at HSl
    have HSl := Lib.hid HSl
    clear hs2
    go_wp2_with fail
    obtain ⟨W10, hW10⟩ : ∃ W, W = w9.alloc (.cells #[.int .i64 1, .int .i64 1, .int .i64 2] 45) := ⟨_, rfl⟩
    rw [← hW10] at P10 E10 V10 T10 HSl ⊢
    clear hW10 i0 i1 i2
    obtain ⟨n10, hn10⟩ : ∃ n, n = w9.heap.size := ⟨_, rfl⟩
    rw [← hn10] at V10 ⊢
    clear hn10
    refine HSl.out.mono ?_
    rintro e w11 ⟨rfl, hb11⟩
    have E11 := Lib.hid (E10.out.ext (Ext.of_below (S := SW) E10.out.hi hb11))
    have T11 := Lib.hid (T10.out.below hb11)
    have V11 := Lib.hid (V10.out.below hb11)
    have P11 := Lib.hid (P10.out.below E10.out.hi hb11)
    have hm4 := FF.out.2.2.2.2.2.2.2.2
    have hm5 := FF.out.2.2.2.2.2.2.2.1
    rw [hrf] at hm5
    obtain ⟨M, hM⟩ : ∃ M, M = l23e.2.1.M := ⟨_, rfl⟩
    rw [← hM] at hm4 hm5
    have bn : ∀ n, Below w11.heap.size w11 (w11.drewN n) := fun n => ⟨rfl, rfl, rfl, Nat.le_refl _, fun _ _ => rfl⟩
    have BN := Lib.hid bn
    have HPX : Hid (∀ x, x = 4 ∨ x = 4294967301 → ∀ n, Calls Tryz.prog 16 #[.pointer (some ⟨B.c, 0, none⟩), .int .u64 x] (w11.drewN n) fun e w' => e = .returned (.int .u64 (M x)) ∧ w11.drewN n = w') := Lib.hid (by
      rw [hM]
      rintro x (rfl | rfl) n
      · exact c_Peek 4 (P11.out.below E11.out.hi (bn n)).ce (by decide) (by decide)
      · exact c_Peek 4294967301 (P11.out.below E11.out.hi (bn n)).ce (by decide) (by decide))
    have HRF : Hid (∀ W, Calls Tryz.prog 26 #[.int .i64 5] W fun e w' => e = .returned (.int .u64 4294967301) ∧ W = w') := Lib.hid (fun W => by have := c_Ref 5 W (by decide) (by decide); rw [hrf] at this; exact this)
    have t0 := T11.out.c 0 _ rfl
    have t1 := T11.out.c 1 _ rfl
    have t2 := T11.out.c 2 _ rfl
    have v0 := V11.out.c 0 _ rfl
    have v1 := V11.out.c 1 _ rfl
    have v2 := V11.out.c 2 _ rfl
    have p0 := P11.out.wo.c0
    clear hM hb11 HSl bn
    go_wp2_with fail
    go_quiet ((first
      | (go_at_call 26; exact quietS (HRF.out _))
      | (go_at_call 16; exact quietS (HPX.out _ (by first | exact .inl rfl | exact .inr rfl) _))))
    go_wp2_with fail
    go_ret
    exact ⟨rfl, E11.out.bel.trans ((BN.out nq).mono E11.out.bel.size)⟩
end Go.Proofs.YtlcibfpibklbdaaGreat
