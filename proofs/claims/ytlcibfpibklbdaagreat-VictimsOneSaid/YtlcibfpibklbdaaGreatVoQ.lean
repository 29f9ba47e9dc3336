/- Layer 24: VictimsOne: once more, all marks less. -/
import Derived.Test.YtlcibfpibklbdaaGreatVoP
namespace Go.Proofs.YtlcibfpibklbdaaGreat
set_option linter.unusedSimpArgs false
open Go.RowKit Go.Shelf
set_option linter.unusedVariables false
theorem runN_nV {Y : Type} {over : Y → Bool} {step : AW × Y → AW × Y} (hst : ∀ z, (step z).1.n ≤ z.1.n + 1 ∧ z.1.n ≤ (step z).1.n) (m : Nat) : ∀ z, z.1.n ≤ (runN over step m z).2.1.n ∧ (runN over step m z).2.1.n ≤ z.1.n + (runN over step m z).1 := by
  induction m with
  | zero => intro z; exact ⟨Int.le_refl _, by show z.1.n ≤ z.1.n + ((0 : Nat) : Int); omega⟩
  | succ m ih =>
    intro z
    by_cases h : over z.2 = true
    · rw [runN_over _ _ h]; exact ⟨Int.le_refl _, by show z.1.n ≤ z.1.n + ((0 : Nat) : Int); omega⟩
    · rw [runN_on _ _ (by simpa using h)]
      have h1 := ih (step z)
      have h2 := hst z
      dsimp only
      omega
theorem vcRun_n {b h : Int} {s y : AW} {z : Vcm} {c : Nat} (e : runN vcOver vcStep 99 (s, vcNew b h) = (c, y, z)) : s.n ≤ y.n ∧ y.n ≤ s.n + 99 := by
  have h1 := runN_nV (over := vcOver) vcStep_n 99 (s, vcNew b h)
  have h2 := runN_le (over := vcOver) (step := vcStep) 99 (s, vcNew b h)
  rw [e] at h1 h2
  dsimp only at h1 h2
  omega
theorem VoR.again {b a o h : Int} {ks : List ByteArray} {s0 s y : AW} {n : Nat} (F : FulS b ks s0) (hks : ks.length ≤ 40) (H : VcB b a o h) (h0 : 0 ≤ h) (h1 : h < 18446744073709551616) (V : VmI s0 s n) (hS : VoS b a o s.M (vcN a o)) (hlo : ∀ x, x ≤ 4294967296 → y.M x = s.M x) (hy : y.M = vcM b a o s.M (vcN a o)) (hnt : y.nt = []) :
    ∃ c u z, runN vcOver vcStep 99 (y, vcNew b h) = (c, u, z) ∧ vcGot z = (vcP b a o 0, true) ∧ u.nt.length = 1 := by
  have VO := VoB.of F hks H h0 h1 V
  have hN := vcN_le a o
  have hlow : ∀ j, j < 8 → (vcP b a o j).item ≤ 4294967296 := fun j hj => by have := (VO.ok j hj).item; omega
  have e0 : vcI b a o y.M 0 = vcI b a o s.M 0 := by unfold vcI; rw [hlo _ (hlow 0 (by omega))]
  have hS0 := hS 0 (by omega)
  have hB0 := VO.bd 0 (by omega)
  have hb1 := H.b1
  obtain ⟨c, u, z, g1, g2, g3, g4, g5, ⟨n1, h2, g6⟩, g7⟩ := vc_drop (s := y) H.b0 (by omega) H.ha H.ho 0 (by omega) (fun j hj => by
    obtain rfl : j = 0 := by omega
    rw [e0]; omega) hlow (fun i j hi hj _ => by omega) (fun j hj => by omega) (by
    rw [e0, hy, vcM_in (fun j hj => (hS j hj).1) (fun i j hi hj e => VO.di i j hi hj e (by have := (hS i hi).1; omega)) 0 (by omega)]
    unfold rfLess
    omega) 99 (by decide)
  refine ⟨c, u, z, g1, by unfold vcGot; rw [if_pos g3, g4], ?_⟩
  rw [g6, hnt]
  rfl
end Go.Proofs.YtlcibfpibklbdaaGreat
