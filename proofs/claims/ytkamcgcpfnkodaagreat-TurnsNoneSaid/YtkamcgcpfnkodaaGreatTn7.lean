/- Layer 21: Turns run; the chapter's examples. -/
import Derived.Test.YtkamcgcpfnkodaaGreatTn6
import Derived.Test.YtkamcgcpfnkodaaGreatRun
import Derived.Test.YtkamcgcpfnkodaaGreatWn
namespace Go.Proofs.YtkamcgcpfnkodaaGreat
open Go.RowKit Go.Shelf
set_option linter.unusedVariables false

theorem upd_bd {M : Int → Int} {a v : Int} (h : Bd M) (v0 : 0 ≤ v) (v1 : v < 18446744073709551616) : Bd (upd M a v) := by
  intro x
  unfold upd
  split
  · exact ⟨v0, v1⟩
  · exact h x
theorem upd_far {M : Int → Int} {b v : Int} (h : ∀ a, 4096 ≤ a → M a = 0) (hb : b < 4096) : ∀ a, 4096 ≤ a → upd M b v a = 0 := by
  intro a ha
  unfold upd
  rw [if_neg (by omega)]
  exact h a ha
theorem TzOk.step {q : Int} {s : AW} {z : Tz} (h : TzOk s z) (ho : tzOver z = false) : TzOk (tnStep q (s, z)).1 (tnStep q (s, z)).2 := by
  obtain ⟨ln, t, c, n, k⟩ := z
  obtain ⟨em, bd, hl, t0, t1, c0, c1, n0, n1, nw, lt, c5, k0⟩ := h
  have hne : ln ≠ 0 := by unfold tzOver at ho; simpa using ho
  dsimp only at hl t0 t1 c0 c1 n0 n1 nw lt c5 k0
  have hs := fnvSize_le (plOld t)
  have b2 := bd 2
  have b3 := bd 3
  rcases hl with rfl | rfl | rfl | rfl | rfl | rfl
  · exact absurd rfl hne
  · have e : tnStep q (s, ⟨1, t, c, n, k⟩) = (awLoad 2 s, ⟨if plNow (s.M 2) = 0 then 0 else 2, s.M 2, c, n, k⟩) := by unfold tnStep; rw [if_pos rfl]
    rw [e]
    by_cases hz : plNow (s.M 2) = 0
    · rw [if_pos hz]
      exact ⟨em, bd, .inl rfl, b2.1, b2.2, c0, c1, n0, by show n ≤ s.n + 1; omega, fun h => by simp at h, fun h => by simp at h, fun h => by simp at h, fun h => by simp at h⟩
    · rw [if_neg hz]
      exact ⟨em, bd, .inr (.inr (.inl rfl)), b2.1, b2.2, c0, c1, n0, by show n ≤ s.n + 1; omega, fun _ => hz, fun h => by simp at h, fun h => by simp at h, fun h => by simp at h⟩
  · have e : tnStep q (s, ⟨2, t, c, n, k⟩) = (awLoad 3 s, ⟨if fnvSize (plOld t) ≤ s.M 3 then 3 else 4, t, s.M 3, n, 0⟩) := by unfold tnStep; rw [if_neg (show ¬ ((2 : Int) = 1) by decide), if_pos rfl]
    rw [e]
    have hnw := nw (.inl rfl)
    by_cases hz : fnvSize (plOld t) ≤ s.M 3
    · rw [if_pos hz]
      exact ⟨em, bd, .inr (.inr (.inr (.inl rfl))), t0, t1, b3.1, b3.2, n0, by show n ≤ s.n + 1; omega, fun _ => hnw, fun h => by simp at h, fun h => by simp at h, fun h => by simp at h⟩
    · rw [if_neg hz]
      exact ⟨em, bd, .inr (.inr (.inr (.inr (.inl rfl)))), t0, t1, b3.1, b3.2, n0, by show n ≤ s.n + 1; omega, fun _ => hnw, fun _ => by show s.M 3 < fnvSize (plOld t); omega, fun h => by simp at h, fun _ => ⟨by show (0 : Int) ≤ 0; decide, by show (0 : Int) < 4; decide⟩⟩
  · have e : tnStep q (s, ⟨3, t, c, n, k⟩) = (awNote 5 0 0 0 0 (plNow t) (awStore 2 (plWord (plNow t) 0) s), ⟨0, t, c, n, k⟩) := by unfold tnStep; rw [if_neg (show ¬ ((3 : Int) = 1) by decide), if_neg (show ¬ ((3 : Int) = 2) by decide), if_neg (show ¬ ((3 : Int) = 4) by decide), if_neg (show ¬ ((3 : Int) = 5) by decide)]
    rw [e]
    have hwb : 0 ≤ plWord (plNow t) 0 ∧ plWord (plNow t) 0 < 18446744073709551616 := by unfold plWord; omega
    exact ⟨upd_far em (by decide), upd_bd bd hwb.1 hwb.2, .inl rfl, t0, t1, c0, c1, n0, by show n ≤ s.n + 1; omega, fun h => by simp at h, fun h => by simp at h, fun h => by simp at h, fun h => by simp at h⟩
  · have e : tnStep q (s, ⟨4, t, c, n, k⟩) = (awLoad (plTags (plOld t) c) s, ⟨if k = 3 then 5 else 4, t, c, n, k + 1⟩) := by unfold tnStep; rw [if_neg (show ¬ ((4 : Int) = 1) by decide), if_neg (show ¬ ((4 : Int) = 2) by decide), if_pos rfl]
    rw [e]
    have hnw := nw (.inr (.inr rfl))
    have hlt := lt rfl
    have hk := k0 rfl
    by_cases hz : k = 3
    · rw [if_pos hz]
      exact ⟨em, bd, .inr (.inr (.inr (.inr (.inr rfl)))), t0, t1, c0, c1, n0, by show n ≤ s.n + 1; omega, fun h => by simp at h, fun h => by simp at h, fun _ => by show c < 4096; omega, fun h => by simp at h⟩
    · rw [if_neg hz]
      exact ⟨em, bd, .inr (.inr (.inr (.inr (.inl rfl)))), t0, t1, c0, c1, n0, by show n ≤ s.n + 1; omega, fun _ => hnw, fun _ => hlt, fun h => by simp at h, fun _ => ⟨by show 0 ≤ k + 1; omega, by show k + 1 < 4; omega⟩⟩
  · have e : tnStep q (s, ⟨5, t, c, n, k⟩) = (awStore 3 (c + 1) s, ⟨if n + 1 < q then 1 else 0, t, c, n + 1, k⟩) := by unfold tnStep; rw [if_neg (show ¬ ((5 : Int) = 1) by decide), if_neg (show ¬ ((5 : Int) = 2) by decide), if_neg (show ¬ ((5 : Int) = 4) by decide), if_pos rfl]
    rw [e]
    have hc5 := c5 rfl
    by_cases hz : n + 1 < q
    · rw [if_pos hz]
      exact ⟨upd_far em (by decide), upd_bd bd (by omega) (by omega), .inr (.inl rfl), t0, t1, c0, c1, by show 0 ≤ n + 1; omega, by show n + 1 ≤ s.n + 1; omega, fun h => by simp at h, fun h => by simp at h, fun h => by simp at h, fun h => by simp at h⟩
    · rw [if_neg hz]
      exact ⟨upd_far em (by decide), upd_bd bd (by omega) (by omega), .inl rfl, t0, t1, c0, c1, by show 0 ≤ n + 1; omega, by show n + 1 ≤ s.n + 1; omega, fun h => by simp at h, fun h => by simp at h, fun h => by simp at h, fun h => by simp at h⟩
theorem tnStep_n (q : Int) (z : AW × Tz) : (tnStep q z).1.n ≤ z.1.n + 1 ∧ z.1.n ≤ (tnStep q z).1.n := by
  unfold tnStep
  split
  · exact ⟨Int.le_refl _, by show z.1.n ≤ z.1.n + 1; omega⟩
  · split
    · exact ⟨Int.le_refl _, by show z.1.n ≤ z.1.n + 1; omega⟩
    · split
      · exact ⟨Int.le_refl _, by show z.1.n ≤ z.1.n + 1; omega⟩
      · split
        · exact ⟨Int.le_refl _, by show z.1.n ≤ z.1.n + 1; omega⟩
        · exact ⟨Int.le_refl _, by show z.1.n ≤ z.1.n + 1; omega⟩
theorem TzOk.start {s : AW} (em : ∀ a, 4096 ≤ a → s.M a = 0) (bd : Bd s.M) (n0 : 0 ≤ s.n) : TzOk s tzNew :=
  ⟨em, bd, .inr (.inl rfl), by decide, by decide, by decide, by decide, by decide, n0, fun h => absurd h (by decide), fun h => absurd h (by decide), fun h => absurd h (by decide), fun h => absurd h (by decide)⟩
theorem m_TOver (X : Nat) : ∀ W, (method 454 47 (.pointer (some ⟨X, 0, none⟩)) "Over").run Tryz.prog W = .ok (24, .pointer (some ⟨X, 0, none⟩)) W := fun W => by kernel_rfl
theorem m_TStep (X : Nat) : ∀ W, (method 454 47 (.pointer (some ⟨X, 0, none⟩)) "Step").run Tryz.prog W = .ok (14, .pointer (some ⟨X, 0, none⟩)) W := fun W => by kernel_rfl
theorem c_TStep {X : Nat} {z : Tz} {w : World} {O : Om} {B : Wb} {f : Cf} {s : AW} (hP : PW w O B f s) (hX : TnAt w O X z) (hz : TzOk s z) (ho : tzOver z = false) (hhi : ∀ j, O j ≠ 0 → j < w.heap.size) (n0 : 0 ≤ s.n) (n1 : s.n ≤ 4611686018427387904) :
    Calls Tryz.prog 14 #[.pointer (some ⟨X, 0, none⟩), .pointer (some ⟨B.p, 0, none⟩)] w (RP (SX 10 15) w O (.bool (tzOver (tnStep f.q (s, z)).2)) fun W G => PW W G B f (tnStep f.q (s, z)).1 ∧ TnAt W G X (tnStep f.q (s, z)).2) := by
  rcases hz.ln with h | h | h | h | h | h
  · exfalso; unfold tzOver at ho; rw [h] at ho; simp at ho
  · exact (c_TStep1 hP hX hhi h hz.t0 hz.t1 n0 n1).mono fun e w' hp => hp.mono (fun t _ k => SX.mono (Nat.le_refl _) (by decide) k) fun _ _ k => k
  · exact c_TStep2 hP hX hhi h hz.t0 hz.t1 (hz.nw (.inl h)) n0 n1
  · exact c_TStep3 hP hX hhi h hz.t0 hz.t1 n0 n1
  · exact c_TStep4 hP hX hhi h hz.t0 hz.t1 hz.c0 (hz.lt h) (hz.k0 h).1 (hz.k0 h).2 hz.em n0 n1
  · exact c_TStep5 hP hX hhi h hz.t0 hz.t1 hz.c0 (hz.c5 h) hz.n0 (by have := hz.n1; omega) n0 n1
def tnRun (q : Int) (m : Nat) (s : AW) : Nat × (AW × Tz) := runN tzOver (tnStep q) m (s, tzNew)
set_option maxHeartbeats 1000000 in
set_option maxRecDepth 100000 in
theorem c_TRun {X : Nat} {w : World} {O : Om} {B : Wb} {f : Cf} {s : AW} (m : Nat) (hP : PW w O B f s) (hX : TnAt w O X tzNew) (hz : TzOk s tzNew) (hhi : ∀ j, O j ≠ 0 → j < w.heap.size) (n0 : 0 ≤ s.n) (n1 : s.n + m ≤ 4611686018427387904) :
    Calls Tryz.prog 26 #[.pointer (some ⟨B.p, 0, none⟩), .iface 47 (.pointer (some ⟨X, 0, none⟩)), .int .i64 m] w (RP (SX 10 15) w O (.int .i64 (tnRun f.q m s).1) fun W G => PW W G B f (tnRun f.q m s).2.1 ∧ TzOk (tnRun f.q m s).2.1 (tnRun f.q m s).2.2) := by
  refine (c_RunG tzOver (tnStep f.q) (SX 10 15) (fun W G z => PW W G B f z.1 ∧ TnAt W G X z.2 ∧ TzOk z.1 z.2) B.p X 47 24 14 (m_TOver _) (m_TStep _)
    (run_enter Tryz.func24 (by kernel_rfl) (by kernel_rfl)) (run_enter Tryz.func14 (by kernel_rfl) (by kernel_rfl)) ?_ ?_ (fun z => tnStep_n f.q z) w O m (s, tzNew) ⟨hP, hX, hz⟩ hhi n0 n1).mono ?_
  · rintro W G ⟨s1, y⟩ ⟨h1, h2, h3⟩
    obtain ⟨sw, mv, hx, -, -⟩ := h2.ex
    exact c_TOver (hx.c 0 _ rfl)
  · rintro W G ⟨s1, y⟩ ⟨h1, h2, h3⟩ ho hh q0 q1
    refine (c_TStep h1 h2 h3 ho hh q0 q1).mono ?_
    intro e w' hp
    exact ⟨_, hp.mono (fun _ _ h => h) fun W1 G1 h => ⟨h.1, h.2, TzOk.step h3 ho⟩⟩
  · intro e w' hp
    exact hp.mono (fun _ _ h => h) fun W1 G1 h => ⟨h.1, h.2.2⟩
def q1 : Nat × (AW × Tz) := tnRun 1 99 (aw0 1)
def q2 : Nat × (AW × Tz) := tnRun 1 99 (awStore 2 (plWord 1 2) q1.2.1)
def q3 : Nat × (AW × Tz) := tnRun 1 99 q2.2.1
def q4 : Nat × (AW × Tz) := tnRun 1 99 q3.2.1
theorem q_num : q1.1 = 1 ∧ q2.1 = 7 ∧ q3.1 = 7 ∧ q4.1 = 3 := by decide
theorem q_M : q2.2.1.M 3 = 1 ∧ q3.2.1.M 3 = 2 ∧ q4.2.1.M 2 = 2 := by decide
theorem q_n : (0 ≤ q1.2.1.n ∧ q1.2.1.n ≤ 1000) ∧ (0 ≤ q2.2.1.n ∧ q2.2.1.n ≤ 1000) ∧ (0 ≤ q3.2.1.n ∧ q3.2.1.n ≤ 1000) := by decide
end Go.Proofs.YtkamcgcpfnkodaaGreat
