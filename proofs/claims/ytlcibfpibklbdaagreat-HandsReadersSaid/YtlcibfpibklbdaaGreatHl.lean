/- Layer 23: the chapter's example. -/
import Derived.Test.YtlcibfpibklbdaaGreatHo
import Derived.Test.YtlcibfpibklbdaaGreatBaH
import Derived.BigQuiet
import Derived.Deep.QuietTactic
import Derived.ChangeKeysEq
import Derived.Laws.StructEq
namespace Go.Proofs.YtlcibfpibklbdaaGreat
set_option linter.unusedSimpArgs false
open Go.RowKit Go.Shelf
set_option linter.unusedVariables false

def l23sp : Spt := ⟨1, 1, 2⟩
theorem l23sp_ok : l23sp.ok := by constructor <;> decide
def l23p : Nat × (AW × Otm) := runN ptOver (fun z => putStep l23sp 9 5 z.1 z.2) 9 (aw0 1, ⟨0, 0⟩)
def l23s : AW := awStore (plRef 5) 1 l23p.2.1
def l23e : Nat × (AW × Evm) := runN evOver evStep 99 (l23s, evNew)
theorem l23_f : l23e.1 = 29 ∧ (evGot l23e.2.2).1 = 5 ∧ (evGot l23e.2.2).2.b = 1 ∧ (evGot l23e.2.2).2.q = 1 ∧ (evGot l23e.2.2).2.s = 2 ∧ twTag (l23e.2.1.M l23sp.tags) 2 = 0 ∧ l23e.2.1.M l23sp.item = 0 ∧ l23e.2.1.M (plRef 5) = 2 ∧ l23e.2.1.M 4 = 7 := by decide +kernel
theorem l23_n : (0 ≤ l23p.2.1.n ∧ l23p.2.1.n ≤ 1000) ∧ (0 ≤ l23s.n ∧ l23s.n ≤ 1000) := by decide +kernel
theorem m_EvOver (a : Addr) (w : World) : (method 519 49 (.pointer (some a)) "Over").run Tryz.prog w = .ok (23, .pointer (some a)) w := by kernel_rfl
theorem m_EvStep (a : Addr) (w : World) : (method 519 49 (.pointer (some a)) "Step").run Tryz.prog w = .ok (29, .pointer (some a)) w := by kernel_rfl
theorem evStep_n (z : AW × Evm) : (evStep z).1.n ≤ z.1.n + 1 ∧ z.1.n ≤ (evStep z).1.n := by
  obtain ⟨s, z⟩ := z
  by_cases h : 0 ≤ z.ln ∧ z.ln ≤ 12
  · have a := evStep_aw s z h.1 h.2
    exact ⟨a.n1, a.n0⟩
  · have e : evStep (s, z) = (s, z) := by
      unfold evStep
      dsimp only
      rw [if_neg (by omega), if_neg (by omega), if_neg (by omega), if_neg (by omega), if_neg (by omega), if_neg (by omega), if_neg (by omega), if_neg (by omega), if_neg (by omega), if_neg (by omega), if_neg (by omega), if_neg (by omega)]
    rw [e]
    exact ⟨by dsimp only; omega, Int.le_refl _⟩
section
variable {w : World} {O : Om} {B : Wb} {f : Cf} {s : AW} {k : Nat}
theorem c_EvRun (X : Nat) (m : Nat) (hP : PW w O B f s) (hX : EvAt w O k X evNew) (hk : 10 ≤ k) (hhi : ∀ j, O j ≠ 0 → j < w.heap.size) (n0 : 0 ≤ s.n) (n1 : s.n + m ≤ 4611686018427387904) :
    Calls Tryz.prog 21 #[.pointer (some ⟨B.p, 0, none⟩), .iface 49 (.pointer (some ⟨X, 0, none⟩)), .int .i64 m] w (RP (SX k (k + 5)) w O (.int .i64 (runN evOver evStep m (s, evNew)).1) fun W G => PW W G B f (runN evOver evStep m (s, evNew)).2.1 ∧ EvAt W G k X (runN evOver evStep m (s, evNew)).2.2 ∧ EvOk (runN evOver evStep m (s, evNew)).2.2) := by
  refine (c_RunG evOver evStep (SX k (k + 5)) (fun W G z => PW W G B f z.1 ∧ EvAt W G k X z.2 ∧ EvOk z.2) B.p X 49 23 29 (m_EvOver _) (m_EvStep _)
    (run_enter Tryz.func23 (by kernel_rfl) (by kernel_rfl)) (run_enter Tryz.func29 (by kernel_rfl) (by kernel_rfl)) ?_ ?_ evStep_n w O m (s, evNew) ⟨hP, hX, evNew_ok⟩ hhi n0 n1).mono ?_
  · rintro W G ⟨s1, y⟩ ⟨h1, h2, h3⟩
    exact c_EvOver h2.cell0
  · rintro W G ⟨s1, y⟩ ⟨h1, h2, h3⟩ ho hh q0 q1
    refine (c_EvStep h1 h2 h3 hk hh q0 q1).mono ?_
    intro e w' hp2
    exact ⟨_, RP.mono hp2 (fun _ _ h => h) fun W1 G1 h => ⟨h.1, h.2, evStep_ok h1.bd h3⟩⟩
  · intro e w' hp2
    exact hp2
end
set_option maxHeartbeats 1000000 in
set_option maxRecDepth 100000 in
theorem c_lwSpot (w : World) : Calls Tryz.prog 70 #[.int .i64 1, .int .i64 1, .int .i64 2] w fun e w' => e = .returned (.agg #[.int .i64 1, .int .i64 1, .int .i64 2]) ∧ Below w.heap.size w w' := by
  have h2 : fnvSize 1 = 2 := by decide
  go_enter Tryz.func70, Tryz.ntmps70
  go_wp2_with fail
  refine (c_Size 1 _ (by decide) (by decide)).mono ?_
  rintro e w' ⟨rfl, rfl⟩
  rw [h2]
  go_wp2_with fail
  exact bodyPost_ret (v := .agg #[.int .i64 1, .int .i64 1, .int .i64 2]) (by simp [results, Tryz.results70, go_sem]) rfl ⟨rfl, by (repeat (first | exact Below.refl _ _ | exact (Below.refl _ _).alloc (Nat.le_refl _) _ | (with_reducible refine below_setCell' ?_ (by omega) _ _) | (with_reducible refine Below.drew ?_)))⟩
end Go.Proofs.YtlcibfpibklbdaaGreat
