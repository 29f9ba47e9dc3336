/- Layer 22: RefsQuiet. -/
import Derived.Test.YtijifjiehldcaaaRfLaws
namespace Go.Proofs.Ytijifjiehldcaaa
open Go.RowKit
set_option linter.unusedVariables false

theorem rfMark_half (v : Int) (v0 : 0 ≤ v) : rfMark v / 2 = v / 2 := by unfold rfMark; omega
theorem rfMark_marked (v : Int) (v0 : 0 ≤ v) : rfMarked (rfMark v) = true := by unfold rfMarked rfMark; simp; omega
theorem rfMark_bd (v : Int) (v0 : 0 ≤ v) (v1 : v < 18446744073709551616) : 0 ≤ rfMark v ∧ rfMark v < 18446744073709551616 := by unfold rfMark; omega
set_option maxHeartbeats 2000000 in
set_option maxRecDepth 100000 in
theorem w_RefsQuiet (ref v sw : Int) (w : World) (r0 : 0 ≤ ref) (r1 : ref ≤ 4294967295) (v0 : 0 ≤ v) (v1 : v ≤ 18446744073709551615) (s0 : 0 ≤ sw) (s1 : sw ≤ 18446744073709551615) :
    Calls Try.prog 6 #[.int .u32 ref, .int .u64 v, .int .u64 sw] w fun e w' => e = .returned (.bool true) ∧ Below w.heap.size w w' := by
  have v2 : v < 18446744073709551616 := by omega
  have s2 : sw < 18446744073709551616 := by omega
  have hm0 : 0 ≤ ref % 1073741824 := by omega
  have hm1 : ref % 1073741824 < 1073741824 := by omega
  obtain ⟨n, hn⟩ : ∃ n, n = 1 + ref % 1073741824 := ⟨_, rfl⟩
  obtain ⟨A, hA⟩ : ∃ A, A = plRef n := ⟨_, rfl⟩
  have hAe : A = 4294967296 + n := by rw [hA]; unfold plRef; rw [if_neg (by omega)]
  have HA := Lib.hid (show 0 ≤ A ∧ A < 18446744073709551616 ∧ ¬ A = 0 ∧ ¬ 5 = A ∧ ¬ A = 5 by omega)
  have HAp := Lib.hid hA
  have hn0 : 1 ≤ n := by omega
  have hn1 : n ≤ 1073741824 := by omega
  have Hn := Lib.hid hn
  have HT := Lib.hid (tcNew_ok HA.out.1 HA.out.2.1)
  clear hA hAe hn v1 s1
  go_enter Try.func6, Try.ntmps6
  go_wp2_with fail
  refine (c_World 1 w (by decide) (by decide)).mono ?_
  rintro e w1 ⟨p, c, ip, np, F1, rfl, hS⟩
  have L1 := Lib.hid hS.lw
  clear hS
  go_wp2_with fail
  rw [← Hn.out]
  refine (c_Ref n _ (by omega) (by omega)).mono ?_
  rintro e w' ⟨rfl, rfl⟩
  rw [← HAp.out]
  have p1 := L1.out.hp
  go_wp2_with fail
  refine (c_StoreL A v L1.out HA.out.1 HA.out.2.1 v0 v2 (by decide) (by decide)).mono ?_
  rintro e w2 ⟨rfl, F2, l2, g2, h2⟩
  have p2 := l2.hp
  have L2 := Lib.hid l2
  clear l2 g2 h2 p1
  go_wp2_with fail
  refine (c_StoreL 5 sw L2.out (by decide) (by decide) s0 s2 (by decide) (by decide)).mono ?_
  rintro e w3 ⟨rfl, F3, l3, g3, h3⟩
  obtain ⟨M, hM⟩ : ∃ M, M = upd (upd (upd (fun _ => 0) 2 (plWord 1 0)) A v) 5 sw := ⟨_, rfl⟩
  obtain ⟨la, hla⟩ : ∃ la : La, la = ⟨2, 5, upd (upd (fun _ => 0) 2 (plWord 1 0)) A v 5, sw⟩ := ⟨_, rfl⟩
  rw [← hM, ← hla] at l3
  have hMA : M A = v := by rw [hM, upd_other _ HA.out.2.2.2.2, upd_same]
  have hM5 : M 5 = sw := by rw [hM, upd_same]
  have HMA := Lib.hid hMA
  have HM5 := Lib.hid hM5
  have L3 := Lib.hid l3
  clear l3 g3 h3 p2 hM hla hMA hM5
  go_wp2_with fail
  refine (c_NewT L3.out n (by omega) (by omega)).mono ?_
  rintro e w4 ⟨x, rfl, l4, k4, xp, xb, _, _⟩
  rw [← HAp.out] at k4
  have L4 := Lib.hid l4
  have K4 := Lib.hid k4
  have XP := Lib.hid xp
  have XB := Lib.hid xb
  clear l4 k4 xp xb
  go_wp2_with fail
  refine (c_RunT 9 L4.out K4.out XP.out XB.out HT.out (by decide) (by decide)).mono ?_
  rintro e w5 ⟨rfl, F5, l5, k5, g5, h5⟩
  cases hm : rfMarked v
  · by_cases hs : sw = 0
    · rw [tcRun_done 6 M _ _ A HA.out.2.2.1 (by rw [HMA.out]; exact hm) (by rw [HM5.out]; exact hs)] at l5 k5 ⊢
      rw [HMA.out] at l5 k5
      have L5 := Lib.hid l5
      have K5 := Lib.hid k5
      have p5 := l5.hp
      have hv5 : upd M A (rfMark v) 5 = sw := by rw [upd_other _ HA.out.2.2.2.1, HM5.out]
      have hvA : upd M A (rfMark v) A = rfMark v := upd_same _ _ _
      obtain ⟨mk, hmk⟩ : ∃ mk, mk = rfMark v := ⟨_, rfl⟩
      have mb := rfMark_bd v v0 v2
      have e1 := rfMark_half v v0
      have HMm := Lib.hid (rfMark_marked v v0)
      rw [← hmk] at mb e1 HMm hvA
      have e2 : (mk / 2 != v / 2) = false := by simp [e1]
      have HV5 := Lib.hid hv5
      have HVA := Lib.hid hvA
      have Hm := Lib.hid hm
      have es : (sw != 0) = false := by simp [hs]
      rw [hmk] at HVA
      clear l5 k5 g5 h5 hm hs hv5 hvA e1 L4 K4
      go_wp2_with fail
      refine (c_Peek A L5.out.ce HA.out.1 HA.out.2.1).mono ?_
      rintro e w' ⟨rfl, rfl⟩
      rw [HVA.out, ← hmk]
      clear hmk
      go_wp2_with fail
      refine (c_Peek 5 L5.out.ce (by decide) (by decide)).mono ?_
      rintro e w' ⟨rfl, rfl⟩
      dsimp only
      rw [HV5.out]
      go_wp2_with fail
      refine (c_Over x _ _ K5.out.ta).mono ?_
      rintro e w' ⟨rfl, rfl⟩
      rw [show tcOver ⟨0, 3, v, true⟩ = true from rfl]
      go_wp2_with fail
      refine (c_Marked v _ v0 v2).mono ?_
      rintro e w' ⟨rfl, rfl⟩
      rw [Hm.out]
      go_wp2_with fail
      refine (c_Marked mk _ mb.1 mb.2).mono ?_
      rintro e w' ⟨rfl, rfl⟩
      rw [HMm.out]
      go_wp2_with fail
      refine (c_Done x _ _ K5.out.ta).mono ?_
      rintro e w' ⟨rfl, rfl⟩
      go_wp2_with fail
      refine (viaC (c_lives22 _)).mono ?_
      rintro e w' ⟨rfl, m1, rfl⟩
      go_wp2
      go_ret
      exact ⟨rfl, below_via L5.out.bel _⟩
    · rw [tcRun_swept 7 M _ _ A HA.out.2.2.1 (by rw [HMA.out]; exact hm) (by rw [HM5.out]; exact hs)] at l5 k5 ⊢
      rw [HMA.out] at k5
      have L5 := Lib.hid l5
      have K5 := Lib.hid k5
      have p5 := l5.hp
      have Hm := Lib.hid hm
      have es : (sw != 0) = true := by simp [hs]
      clear l5 k5 g5 h5 hm hs L4 K4
      go_wp2_with fail
      refine (c_Peek A L5.out.ce HA.out.1 HA.out.2.1).mono ?_
      rintro e w' ⟨rfl, rfl⟩
      dsimp only
      rw [HMA.out]
      go_wp2_with fail
      refine (c_Peek 5 L5.out.ce (by decide) (by decide)).mono ?_
      rintro e w' ⟨rfl, rfl⟩
      dsimp only
      rw [HM5.out]
      go_wp2_with fail
      refine (c_Over x _ _ K5.out.ta).mono ?_
      rintro e w' ⟨rfl, rfl⟩
      rw [show tcOver ⟨0, 2, v, false⟩ = true from rfl]
      go_wp2_with fail
      refine (c_Marked v _ v0 v2).mono ?_
      rintro e w' ⟨rfl, rfl⟩
      rw [Hm.out]
      go_wp2_with fail
      refine (c_Done x _ _ K5.out.ta).mono ?_
      rintro e w' ⟨rfl, rfl⟩
      go_wp2_with fail
      refine (viaC (c_lives22 _)).mono ?_
      rintro e w' ⟨rfl, m1, rfl⟩
      go_wp2
      go_ret
      exact ⟨rfl, below_via L5.out.bel _⟩
  · rw [tcRun_marked 8 M _ _ A HA.out.2.2.1 (by rw [HMA.out]; exact hm)] at l5 k5 ⊢
    rw [HMA.out] at k5
    have L5 := Lib.hid l5
    have K5 := Lib.hid k5
    have p5 := l5.hp
    have Hm := Lib.hid hm
    clear l5 k5 g5 h5 hm L4 K4
    go_wp2_with fail
    refine (c_Peek A L5.out.ce HA.out.1 HA.out.2.1).mono ?_
    rintro e w' ⟨rfl, rfl⟩
    dsimp only
    rw [HMA.out]
    go_wp2_with fail
    refine (c_Peek 5 L5.out.ce (by decide) (by decide)).mono ?_
    rintro e w' ⟨rfl, rfl⟩
    dsimp only
    rw [HM5.out]
    go_wp2_with fail
    refine (c_Over x _ _ K5.out.ta).mono ?_
    rintro e w' ⟨rfl, rfl⟩
    rw [show tcOver ⟨0, 1, v, false⟩ = true from rfl]
    go_wp2_with fail
    refine (c_Marked v _ v0 v2).mono ?_
    rintro e w' ⟨rfl, rfl⟩
    rw [Hm.out]
    go_wp2_with fail
    refine (c_Done x _ _ K5.out.ta).mono ?_
    rintro e w' ⟨rfl, rfl⟩
    go_wp2_with fail
    refine (viaC (c_lives22 _)).mono ?_
    rintro e w' ⟨rfl, m1, rfl⟩
    go_wp2
    go_ret
    exact ⟨rfl, below_via L5.out.bel _⟩
end Go.Proofs.Ytijifjiehldcaaa
