/- Layer 22: Run of a Touch; a new world of first bits. -/
import Derived.Test.YtijifjiehldcaaaGreatRfStep
import Derived.Deep.RegionWith
namespace Go.Proofs.YtijifjiehldcaaaGreat
set_option linter.unusedSimpArgs false
open Go.RowKit
set_option linter.unusedVariables false

theorem c_World (b : Int) (w : World) (b0 : 1 ≤ b) (b1 : b ≤ 12) : Calls Tryz.prog 32 #[.int .i64 b] w fun e w' => ∃ p c ip np F, e = .returned (.pointer (some ⟨p, 0, none⟩)) ∧ Sy w w' F p c ip np ⟨b, 8, 3, 1, 16⟩ (upd (fun _ => 0) 2 (plWord b 0)) 0 ⟨0, 0, 0, 0⟩ (fun _ => 0) (-1) := by
  have hc : Cf.may ⟨b, 8, 3, 1, 16⟩ := ⟨b0, b1, (by show (1:Int) ≤ 8; decide), (by show (8:Int) ≤ 65536; decide), (by show (0:Int) ≤ 3; decide), (by show (3:Int) ≤ 16; decide), (by show (1:Int) ≤ 1; decide), (by show (1:Int) ≤ 8; decide), (by show (2:Int) ≤ 16; decide), (by show (16:Int) ≤ 256; decide)⟩
  have HC := Lib.hid hc
  clear hc
  go_enter Tryz.func32, Tryz.ntmps32
  go_wp2_with fail
  refine (c_WNew ⟨b, 8, 3, 1, 16⟩ w HC.out).mono ?_
  rintro e w1 ⟨p, c, ip, np, F, rfl, hS⟩
  have HS := Lib.hid hS
  clear hS
  go_wp2
  go_ret
  exact ⟨p, c, ip, np, F, rfl, HS.out⟩
theorem m_Over (a : Addr) (w : World) : (method 380 43 (.pointer (some a)) "Over").run Tryz.prog w = .ok (21, .pointer (some a)) w := by kernel_rfl
theorem m_Step (a : Addr) (w : World) : (method 380 43 (.pointer (some a)) "Step").run Tryz.prog w = .ok (18, .pointer (some a)) w := by kernel_rfl
theorem tcRun_le (k : Nat) : ∀ z, (tcRun k z).1 ≤ k := by
  induction k with
  | zero => intro z; exact Nat.le_refl _
  | succ k ih =>
    intro z
    unfold tcRun
    split
    · exact Nat.zero_le _
    · have := ih (tcStep z); dsimp only; omega
theorem tcRun_over (k : Nat) (z : TM) (h : z.t.at_ = 0) : tcRun k z = (0, z) := by
  cases k with
  | zero => rfl
  | succ k => unfold tcRun; rw [if_pos h]
set_option maxHeartbeats 1000000 in
set_option maxRecDepth 100000 in
theorem c_Run (w : World) (F : Nat → Prop) (p c t : Nat) (m : Nat) (z : TM) (h : TS w F p c t z) (hok : z.t.ok) (n0 : 0 ≤ z.n) (n1 : z.n + m ≤ 4611686018427387904) :
    Calls Tryz.prog 34 #[.pointer (some ⟨p, 0, none⟩), .iface 43 (.pointer (some ⟨t, 0, none⟩)), .int .i64 m] w (TSPost w F p c t (tcRun m z).2 (.int .i64 (tcRun m z).1)) := by
  have H := Lib.hid h
  have HO := Lib.hid hok
  have hm1 : (m : Int) ≤ 4611686018427387904 := by omega
  clear h hok
  go_enter Tryz.func34, Tryz.ntmps34
  go_wp2_with fail
  go_loopw [7] (fun i wr => ∃ (k : Nat) (y : TM) (G : Nat → Prop), k ≤ m ∧ i = .int .i64 k ∧ TS wr G p c t y ∧ y.t.ok ∧ z.n ≤ y.n ∧ y.n ≤ z.n + k ∧ tcRun m z = ((tcRun (m - k) y).1 + k, (tcRun (m - k) y).2) ∧ Grow w F wr G ∧ Wrote (fun j => F j ∨ j = t) w wr) (fun i _ => m - (intOf i).toNat)
  case atStart => exact ⟨0, z, F, Nat.zero_le _, rfl, H.out, HO.out, Int.le_refl _, by omega, rfl, ⟨H.out.ce.lts, fun _ h => h, fun _ h => .inl h⟩, Wrote.refl _ _⟩
  case round =>
    obtain ⟨k, y, G, hk, rfl, hT, hok, hn, hn2, hr, hg, hw⟩ := hrel
    have HT := Lib.hid hT
    have HK := Lib.hid hok
    have HR := Lib.hid hr
    have HG := Lib.hid hg
    have HW := Lib.hid hw
    clear hT hok hr hg hw
    have hmo := fun W => m_Over ⟨t, 0, none⟩ W
    have hms := fun W => m_Step ⟨t, 0, none⟩ W
    by_cases hk2 : k < m
    · obtain ⟨q, hq⟩ : ∃ q, m - k = q + 1 := ⟨m - k - 1, by omega⟩
      have hq2 : m - (k + 1) = q := by omega
      have HQ := Lib.hid hq
      have HQ2 := Lib.hid hq2
      clear hq hq2
      cases ho : tcOver y.t
      · have HOv := Lib.hid ho
        have hne : ¬ y.t.at_ = 0 := by unfold tcOver at ho; simpa using ho
        have HNe := Lib.hid hne
        have hy1 : y.n ≤ 4611686018427387904 := by omega
        have hy0 : 0 ≤ y.n := by omega
        clear ho hne
        go_wp2_with fail
        refine (c_Over t _ _ HT.out.ta).mono ?_
        rintro e w' ⟨rfl, rfl⟩
        rw [HOv.out]
        go_wp2_with fail
        refine (c_Step _ _ _ _ _ _ HT.out HK.out hy0 hy1).mono ?_
        rintro e w1 ⟨rfl, G1, hT1, hg1, hw1⟩
        have hn3 := tcStep_n y
        have HK1 := Lib.hid (tcStep_ok HK.out HT.out.ce.bd)
        have HT1 := Lib.hid hT1
        have HG1 := Lib.hid (HG.out.trans hg1 HW.out.size)
        have HW1 : Hid (Wrote (fun j => F j ∨ j = t) w w1) := Lib.hid (HW.out.trans hw1 fun j hj h => by
          rcases h with h | h
          · rcases HG.out.new j h with h2 | h2
            · exact .inl h2
            · omega
          · exact .inr h)
        have HR1 : Hid (tcRun m z = ((tcRun (m - (k + 1)) (tcStep y)).1 + (k + 1), (tcRun (m - (k + 1)) (tcStep y)).2)) := by
          refine Lib.hid ?_
          rw [HR.out, HQ.out, HQ2.out]
          have e : tcRun (q + 1) y = ((tcRun q (tcStep y)).1 + 1, (tcRun q (tcStep y)).2) := by conv => lhs; unfold tcRun; rw [if_neg HNe.out]
          rw [e]
          dsimp only
          rw [Nat.add_assoc, Nat.add_comm 1 k]
        clear hT1 hg1 hw1
        go_wp2
        go_roundw
        case rel => exact ⟨k + 1, tcStep y, G1, by omega, by go_num, HT1.out, HK1.out, by omega, by omega, HR1.out, HG1.out, HW1.out⟩
        case measure => simp [intOf]; omega
      · have HOv := Lib.hid ho
        have HF : Hid (tcRun m z = (k, y)) := by
          refine Lib.hid ?_
          have h0 : y.t.at_ = 0 := by unfold tcOver at ho; simpa using ho
          rw [HR.out, tcRun_over _ _ h0]; simp
        clear ho
        go_wp2_with fail
        refine (c_Over t _ _ HT.out.ta).mono ?_
        rintro e w' ⟨rfl, rfl⟩
        rw [HOv.out]
        go_wp2
        go_ret
        rw [HF.out]
        exact ⟨rfl, G, HT.out, HG.out, HW.out⟩
    · have hkm : k = m := by omega
      have HF : Hid (tcRun m z = (k, y)) := by
        refine Lib.hid ?_
        rw [HR.out, hkm, Nat.sub_self]; unfold tcRun; simp
      clear hkm
      go_wp2
      go_ret
      rw [HF.out]
      exact ⟨rfl, G, HT.out, HG.out, HW.out⟩
end Go.Proofs.YtijifjiehldcaaaGreat
