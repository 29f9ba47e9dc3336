/- Layer 13: an Out by itself (a Run of it). -/
import Derived.Test.YtlcibfpibklbdaaGreatHnP
import Derived.Test.YtlcibfpibklbdaaGreatBaH
namespace Go.Proofs.YtlcibfpibklbdaaGreat
set_option linter.unusedSimpArgs false
open Go.RowKit Go.Shelf
set_option linter.unusedVariables false
theorem ou_run (p : Spt) (s : AW) (m : Nat) (hm : 3 ≤ m) : ∃ y z, runN otOver (fun z => outStep p z.1 z.2) m (s, ⟨0, 0⟩) = (3, y, z) ∧ y.M = upd (upd s.M p.tags (twWith (s.M p.tags) p.s 0)) p.item 0 ∧ y.nt = s.nt ∧ y.it = s.it ∧ y.n = s.n + 3 := by
  have e1 : outStep p s ⟨0, 0⟩ = (awLoad p.tags s, ⟨1, s.M p.tags⟩) := rfl
  have e2 : ∀ (s : AW) wd, outStep p s ⟨1, wd⟩ = (awStore p.tags (twWith wd p.s 0) s, ⟨2, wd⟩) := fun _ _ => rfl
  have e3 : ∀ (s : AW) wd, outStep p s ⟨2, wd⟩ = (awStore p.item 0 s, ⟨3, wd⟩) := fun _ _ => rfl
  have hg : Gos otOver (fun z => outStep p z.1 z.2) 3 (s, ⟨0, 0⟩) (awStore p.item 0 (awStore p.tags (twWith (s.M p.tags) p.s 0) (awLoad p.tags s)), ⟨3, s.M p.tags⟩) := by
    refine ⟨rfl, ?_⟩
    dsimp only
    rw [e1]
    refine ⟨rfl, ?_⟩
    dsimp only
    rw [e2]
    refine ⟨rfl, ?_⟩
    dsimp only
    rw [e3]
    rfl
  exact ⟨_, _, hg.fin hm rfl, rfl, rfl, rfl, by show s.n + 1 + 1 + 1 = _; omega⟩
theorem m_OuOver (a : Addr) (w : World) : (method 519 78 (.pointer (some a)) "Over").run Tryz.prog w = .ok (192, .pointer (some a)) w := by kernel_rfl
theorem m_OuStep (a : Addr) (w : World) : (method 519 78 (.pointer (some a)) "Step").run Tryz.prog w = .ok (147, .pointer (some a)) w := by kernel_rfl
theorem outStep_n (p : Spt) (s : AW) (o : Otm) : (outStep p s o).1.n ≤ s.n + 1 ∧ s.n ≤ (outStep p s o).1.n := by
  obtain ⟨ln, wd⟩ := o
  by_cases h : ln < 3
  · have : ln = 0 ∨ ln = 1 ∨ ln = 2 := by omega
    rcases this with rfl | rfl | rfl
    · exact ⟨Int.le_refl _, by show s.n ≤ s.n + 1; omega⟩
    · exact ⟨Int.le_refl _, by show s.n ≤ s.n + 1; omega⟩
    · exact ⟨Int.le_refl _, by show s.n ≤ s.n + 1; omega⟩
  · have e : outStep p s ⟨ln, wd⟩ = (s, ⟨ln, wd⟩) := by unfold outStep; dsimp only; rw [if_neg (by omega), if_neg (by omega), if_neg (by omega)]
    rw [e]; exact ⟨by dsimp only; omega, Int.le_refl _⟩
section
variable {w : World} {O : Om} {B : Wb} {f : Cf} {s : AW} {k : Nat}
theorem c_OuRun (U : Nat) (p : Spt) (m : Nat) (hP : PW w O B f s) (hU : OutAt w O k U p ⟨0, 0⟩) (hp : p.ok) (hk : 10 ≤ k) (hhi : ∀ j, O j ≠ 0 → j < w.heap.size) (n0 : 0 ≤ s.n) (n1 : s.n + m ≤ 4611686018427387904) :
    Calls Tryz.prog 21 #[.pointer (some ⟨B.p, 0, none⟩), .iface 78 (.pointer (some ⟨U, 0, none⟩)), .int .i64 m] w (RP (SX k k) w O (.int .i64 (runN otOver (fun z => outStep p z.1 z.2) m (s, ⟨0, 0⟩)).1) fun W G => PW W G B f (runN otOver (fun z => outStep p z.1 z.2) m (s, ⟨0, 0⟩)).2.1) := by
  refine (c_RunB otOver (fun z => outStep p z.1 z.2) (SX k k) (fun W G z => PW W G B f z.1 ∧ OutAt W G k U p z.2 ∧ z.2.ln ≤ 3 ∧ 0 ≤ z.2.w ∧ z.2.w < 18446744073709551616) B.p U 78 192 147 (m_OuOver _) (m_OuStep _)
    (run_enter Tryz.func192 (by kernel_rfl) (by kernel_rfl)) (run_enter Tryz.func147 (by kernel_rfl) (by kernel_rfl)) ?_ (fun W W' G z h hh hb => ⟨h.1.below hh hb, h.2.1.below hb, h.2.2⟩) ?_ (fun z => outStep_n p z.1 z.2) w O m (s, ⟨0, 0⟩) ⟨hP, hU, Nat.zero_le _, Int.le_refl _, by show (0 : Int) < 18446744073709551616; decide⟩ hhi n0 n1).mono ?_
  · rintro W G ⟨s1, y⟩ ⟨h1, h2, h3, -, -⟩
    have ht := hp.tags
    have h3 : y.ln ≤ 3 := h3
    have e : otOver y = (y.ln == 3) := by
      have : y.ln = 0 ∨ y.ln = 1 ∨ y.ln = 2 ∨ y.ln = 3 := by omega
      unfold otOver
      rcases this with h | h | h | h <;> rw [h] <;> rfl
    show Calls _ _ _ _ fun e w' => e = .returned (.bool (otOver y)) ∧ _
    rw [e]
    exact c_OutOver p.tags y.ln (h2.ob.c 0 _ rfl) (h2.ob.c 4 _ rfl) (by omega) h3
  · rintro W G ⟨s1, y⟩ ⟨h1, h2, h3, h4, h5⟩ ho hh q0 q1
    have hy : y.ln < 3 := by
      unfold otOver at ho
      have ho : decide (3 ≤ y.ln) = false := ho
      simp at ho
      omega
    refine (c_OutStep y h1 h2 hp hy h4 h5 hk hh q0 q1).mono ?_
    intro e w' hp2
    refine ⟨_, hp2.mono (fun _ _ h => h) fun W1 G1 h => ⟨h.1, h.2, ?_⟩⟩
    have hb := h1.bd p.tags
    obtain ⟨ln, wd⟩ := y
    dsimp only at hy h4 h5
    have : ln = 0 ∨ ln = 1 ∨ ln = 2 := by omega
    rcases this with rfl | rfl | rfl
    · exact ⟨by show 1 ≤ 3; omega, hb.1, hb.2⟩
    · exact ⟨by show 2 ≤ 3; omega, h4, h5⟩
    · exact ⟨by show 3 ≤ 3; omega, h4, h5⟩
  · intro e w' hp2
    exact hp2.mono (fun _ _ h => h) fun W1 G1 h => h.1
end
end Go.Proofs.YtlcibfpibklbdaaGreat
