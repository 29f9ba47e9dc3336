/- Run of an operation by itself, whatever the operation: its Over and Step by their contracts. -/
import Derived.Test.YtijifjiehldcaaaGreatWn
namespace Go.Proofs.YtijifjiehldcaaaGreat
set_option linter.unusedSimpArgs false
open Go.RowKit
set_option linter.unusedVariables false

def runN {Y : Type} (over : Y → Bool) (step : AW × Y → AW × Y) : Nat → AW × Y → Nat × (AW × Y)
  | 0, z => (0, z)
  | m + 1, z => if over z.2 then (0, z) else ((runN over step m (step z)).1 + 1, (runN over step m (step z)).2)
section
variable {Y : Type} {over : Y → Bool} {step : AW × Y → AW × Y}
theorem runN_le (k : Nat) : ∀ z, (runN over step k z).1 ≤ k := by
  induction k with
  | zero => intro z; exact Nat.le_refl _
  | succ k ih =>
    intro z
    unfold runN
    split
    · exact Nat.zero_le _
    · have := ih (step z); dsimp only; omega
theorem runN_over (k : Nat) (z : AW × Y) (h : over z.2 = true) : runN over step k z = (0, z) := by
  cases k with
  | zero => rfl
  | succ k => unfold runN; rw [if_pos h]
theorem runN_on (k : Nat) (z : AW × Y) (h : over z.2 = false) : runN over step (k + 1) z = ((runN over step k (step z)).1 + 1, (runN over step k (step z)).2) := by
  conv => lhs; unfold runN
  rw [if_neg (by simp [h])]
end
set_option maxHeartbeats 1000000 in
set_option maxRecDepth 100000 in
theorem c_RunG {Y : Type} (over : Y → Bool) (step : AW × Y → AW × Y) (S : Nat → Prop) (I : World → Om → AW × Y → Prop) (p X : Nat) (ty : TypeId) (fO fS : FuncId)
    (hmo : ∀ W, (method 380 ty (.pointer (some ⟨X, 0, none⟩)) "Over").run Tryz.prog W = .ok (fO, .pointer (some ⟨X, 0, none⟩)) W)
    (hms : ∀ W, (method 380 ty (.pointer (some ⟨X, 0, none⟩)) "Step").run Tryz.prog W = .ok (fS, .pointer (some ⟨X, 0, none⟩)) W)
    (hKO : ∀ args W, (callFunc fO args).run Tryz.prog W = .ok (.enter fO args) W) (hKS : ∀ args W, (callFunc fS args).run Tryz.prog W = .ok (.enter fS args) W)
    (cO : ∀ W G z, I W G z → Calls Tryz.prog fO #[.pointer (some ⟨X, 0, none⟩)] W fun e w' => e = .returned (.bool (over z.2)) ∧ W = w')
    (cS : ∀ W G z, I W G z → over z.2 = false → (∀ j, G j ≠ 0 → j < W.heap.size) → 0 ≤ z.1.n → z.1.n ≤ 4611686018427387904 → Calls Tryz.prog fS #[.pointer (some ⟨X, 0, none⟩), .pointer (some ⟨p, 0, none⟩)] W fun e w' => ∃ v, RP S W G v (fun W1 G1 => I W1 G1 (step z)) e w')
    (hst : ∀ z, (step z).1.n ≤ z.1.n + 1 ∧ z.1.n ≤ (step z).1.n)
    (w : World) (O : Om) (m : Nat) (z : AW × Y) (h : I w O z) (hhi : ∀ j, O j ≠ 0 → j < w.heap.size) (n0 : 0 ≤ z.1.n) (n1 : z.1.n + m ≤ 4611686018427387904) :
    Calls Tryz.prog 34 #[.pointer (some ⟨p, 0, none⟩), .iface ty (.pointer (some ⟨X, 0, none⟩)), .int .i64 m] w (RP S w O (.int .i64 (runN over step m z).1) fun W G => I W G (runN over step m z).2) := by
  have H := Lib.hid h
  have HH := Lib.hid hhi
  have HCO := Lib.hid cO
  have HCS := Lib.hid cS
  have HST := Lib.hid hst
  have hm1 : (m : Int) ≤ 4611686018427387904 := by omega
  clear h hhi cO cS hst
  go_enter Tryz.func34, Tryz.ntmps34
  go_wp2_with fail
  go_loopw [7] (fun i wr => ∃ (k : Nat) (y : AW × Y) (G : Om), k ≤ m ∧ i = .int .i64 k ∧ I wr G y ∧ z.1.n ≤ y.1.n ∧ y.1.n ≤ z.1.n + k ∧ runN over step m z = ((runN over step (m - k) y).1 + k, (runN over step (m - k) y).2) ∧ Ext S O w G wr) (fun i _ => m - (intOf i).toNat)
  case atStart => exact ⟨0, z, O, Nat.zero_le _, rfl, H.out, Int.le_refl _, by omega, rfl, Ext.refl HH.out⟩
  case round =>
    obtain ⟨k, y, G, hk, rfl, hI, hn, hn2, hr, he⟩ := hrel
    have HI := Lib.hid hI
    have HR := Lib.hid hr
    have HE := Lib.hid he
    clear hI hr he
    by_cases hk2 : k < m
    · obtain ⟨q, hq⟩ : ∃ q, m - k = q + 1 := ⟨m - k - 1, by omega⟩
      have hq2 : m - (k + 1) = q := by omega
      have HQ := Lib.hid hq
      have HQ2 := Lib.hid hq2
      clear hq hq2
      cases ho : over y.2
      · have HOv := Lib.hid ho
        have hy1 : y.1.n ≤ 4611686018427387904 := by omega
        have hy0 : 0 ≤ y.1.n := by omega
        clear ho
        go_wp2_with fail
        refine (HCO.out _ _ _ HI.out).mono ?_
        rintro e w' ⟨rfl, rfl⟩
        rw [HOv.out]
        go_wp2_with fail
        refine (HCS.out _ _ _ HI.out HOv.out HE.out.hi hy0 hy1).mono ?_
        rintro e w1 ⟨v, rfl, G1, e1, i1⟩
        have hn3 := HST.out y
        have HI1 := Lib.hid i1
        have HE1 := Lib.hid (HE.out.trans e1)
        have HR1 : Hid (runN over step m z = ((runN over step (m - (k + 1)) (step y)).1 + (k + 1), (runN over step (m - (k + 1)) (step y)).2)) := by
          refine Lib.hid ?_
          rw [HR.out, HQ.out, HQ2.out, runN_on _ _ HOv.out]
          dsimp only
          rw [Nat.add_assoc, Nat.add_comm 1 k]
        clear i1 e1
        go_wp2
        go_roundw
        case rel => exact ⟨k + 1, step y, G1, by omega, by go_num, HI1.out, by omega, by omega, HR1.out, HE1.out⟩
        case measure => simp [intOf]; omega
      · have HOv := Lib.hid ho
        have HF : Hid (runN over step m z = (k, y)) := by
          refine Lib.hid ?_
          rw [HR.out, runN_over _ _ ho]; simp
        clear ho
        go_wp2_with fail
        refine (HCO.out _ _ _ HI.out).mono ?_
        rintro e w' ⟨rfl, rfl⟩
        rw [HOv.out]
        go_wp2
        go_ret
        rw [HF.out]
        exact ⟨rfl, G, HE.out, HI.out⟩
    · have hkm : k = m := by omega
      have HF : Hid (runN over step m z = (k, y)) := by
        refine Lib.hid ?_
        rw [HR.out, hkm, Nat.sub_self]; unfold runN; simp
      clear hkm
      go_wp2
      go_ret
      rw [HF.out]
      exact ⟨rfl, G, HE.out, HI.out⟩
end Go.Proofs.YtijifjiehldcaaaGreat
