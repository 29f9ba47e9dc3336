/- Layer 22: what holds of readers that touch one item, and a hand that takes its mark away: in plain Lean. -/
import Derived.Test.YtijifjiehldcaaaRfQuiet
namespace Go.Proofs.Ytijifjiehldcaaa
set_option linter.unusedVariables false

/-- Of one reader's Touch: over; or fresh; or it has loaded what is no greater than what stands. -/
def TI (A : Int) (M : Int → Int) (tk : Bool) (t : Tc) (l : Int) (h : Bool) : Prop :=
  t.at_ = 0 ∨ (t.at_ = A ∧ t.done = false ∧ 0 ≤ t.word ∧ t.word < 18446744073709551616 ∧ ((h = false ∧ t.next = 0) ∨ (h = true ∧ t.word = l ∧ rfMarked t.word = false ∧ t.word ≤ M A ∧ (t.next = 1 ∨ (t.next = 2 ∧ (tk = true → t.word < M A))))))
structure PI (A : Int) (M : Int → Int) (tk : Bool) (st : Int) (T : Nat → Option (Nat × Tc)) (ld : Nat → Int) (hs : Nat → Bool) (i : Nat) (f : Int) : Prop where
  up : M A ≤ f + i
  m5 : M 5 = 0 ∨ M 5 = 1
  t5 : tk = true → M 5 = 1 ∧ rfMarked (M A) = false
  st : st = if rfMarked (M A) = true then 1 else 0
  tc : ∀ k, k < 8 → ∀ x t, T k = some (x, t) → TI A M tk t (ld k) (hs k)
theorem TI.mono {A : Int} {M M' : Int → Int} {tk tk' : Bool} {t : Tc} {l : Int} {h : Bool} (hi : TI A M tk t l h) (hm : M A ≤ M' A) (ht : tk' = true → tk = true ∨ M A < M' A) : TI A M' tk' t l h := by
  rcases hi with h0 | ⟨h1, h2, h3, h4, h5⟩
  · exact .inl h0
  · refine .inr ⟨h1, h2, h3, h4, ?_⟩
    rcases h5 with h5 | ⟨a, b, c, d, e⟩
    · exact .inl h5
    · refine .inr ⟨a, b, c, by omega, ?_⟩
      rcases e with e | ⟨e, e2⟩
      · exact .inl e
      · refine .inr ⟨e, fun hk => ?_⟩
        rcases ht hk with h6 | h6
        · have := e2 h6; omega
        · omega
section
variable {A : Int} {M : Int → Int} {tk : Bool} {st : Int} {T : Nat → Option (Nat × Tc)} {ld : Nat → Int} {hs : Nat → Bool} {i : Nat} {f : Int}
theorem PI.next (h : PI A M tk st T ld hs i f) : PI A M tk st T ld hs (i + 1) f := ⟨by have := h.up; omega, h.m5, h.t5, h.st, h.tc⟩
theorem PI.k15 (h : PI A M tk st T ld hs i f) (hA : A ≠ 5) : PI A (upd M 5 1) tk st T ld hs (i + 1) f := by
  have e : upd M 5 1 A = M A := upd_other _ hA
  refine ⟨by rw [e]; have := h.up; omega, .inr (upd_same _ _ _), fun ht => ⟨upd_same _ _ _, by rw [e]; exact (h.t5 ht).2⟩, by rw [e]; exact h.st, fun k hk x t hT => (h.tc k hk x t hT).mono (by rw [e]; omega) fun h => .inl h⟩
theorem PI.k14 (h : PI A M tk st T ld hs i f) (hA : A ≠ 5) : PI A (upd M 5 0) false st T ld hs (i + 1) f := by
  have e : upd M 5 0 A = M A := upd_other _ hA
  refine ⟨by rw [e]; have := h.up; omega, .inl (upd_same _ _ _), (fun ht => by cases ht), by rw [e]; exact h.st, fun k hk x t hT => (h.tc k hk x t hT).mono (by rw [e]; omega) fun h => by cases h⟩
theorem less_marked {v : Int} (v0 : 0 ≤ v) (v1 : v + 1 < 18446744073709551616) (hm : rfMarked v = true) : rfLess v = v + 1 ∧ rfMarked (v + 1) = false := by
  unfold rfMarked at hm ⊢
  unfold rfLess
  have : v % 2 = 1 := by simpa using hm
  exact ⟨by omega, by simp; omega⟩
theorem PI.k13 (h : PI A M tk st T ld hs i f) (hA : (5 : Int) ≠ A) (v0 : 0 ≤ M A) (v1 : M A + 1 < 18446744073709551616) (h5 : M 5 = 1) (hm : rfMarked (M A) = true) : PI A (upd M A (rfLess (M A))) true 0 T ld hs (i + 1) f := by
  obtain ⟨e1, e2⟩ := less_marked v0 v1 hm
  have e : upd M A (rfLess (M A)) A = M A + 1 := by rw [upd_same, e1]
  have e5 : upd M A (rfLess (M A)) 5 = M 5 := upd_other _ hA
  refine ⟨by rw [e]; have := h.up; omega, by rw [e5]; exact h.m5, fun _ => ⟨by rw [e5]; exact h5, by rw [e]; exact e2⟩, by rw [e, e2]; rfl, fun k hk x t hT => (h.tc k hk x t hT).mono (by rw [e]; omega) fun _ => .inr (by rw [e]; omega)⟩
def ldAt (ld : Nat → Int) (k : Nat) (v : Int) : Nat → Int := fun j => if j = k then v else ld j
def hsAt (hs : Nat → Bool) (k : Nat) (b : Bool) : Nat → Bool := fun j => if j = k then b else hs j
def tAt (T : Nat → Option (Nat × Tc)) (k x : Nat) (t : Tc) : Nat → Option (Nat × Tc) := fun j => if j = k then some (x, t) else T j
/-- A fresh Touch. -/
theorem PI.fresh (h : PI A M tk st T ld hs i f) (k x : Nat) : PI A M tk st (tAt T k x (tcNew A)) ld (hsAt hs k false) i f := by
  refine ⟨h.up, h.m5, h.t5, h.st, fun j hj y t hT => ?_⟩
  unfold tAt at hT
  unfold hsAt
  split at hT
  · rename_i e
    cases hT
    rw [if_pos e]
    exact .inr ⟨rfl, rfl, Int.le_refl 0, (by show (0 : Int) < 18446744073709551616; omega), .inl ⟨rfl, rfl⟩⟩
  · rename_i e
    rw [if_neg e]
    exact h.tc j hj y t hT
/-- What a step tells of itself. -/
structure StepSays (A : Int) (M : Int → Int) (h : Bool) (l : Int) (z : TM) : Prop where
  f1 : h = false → tcOver z.t = rfMarked (M A) ∧ z.t.done = false
  f2 : z.t.done = false → z.M A = M A
  f3 : z.t.done = true → tcOver z.t = true ∧ h = true ∧ M A = l ∧ z.M A = M A + 1 ∧ rfMarked (M A + 1) = true ∧ rfMarked (M A) = false
theorem mark_un {v : Int} (v0 : 0 ≤ v) (hm : rfMarked v = false) : rfMark v = v + 1 ∧ rfMarked (v + 1) = true := by
  unfold rfMarked at hm ⊢
  unfold rfMark
  have : ¬ v % 2 = 1 := by simpa using hm
  exact ⟨by omega, by simp; omega⟩
theorem PI.step (h : PI A M tk st T ld hs i f) (hA : (5 : Int) ≠ A) (hA0 : A ≠ 0) (hAb : 0 ≤ A ∧ A < 18446744073709551616) (hM : Bd M) (k x : Nat) (t : Tc) (hk : k < 8) (hT : T k = some (x, t)) (ha : t.at_ ≠ 0) (n : Int) (la : La) :
    t.ok ∧ StepSays A M (hs k) (ld k) (tcStep ⟨M, n, la, t⟩) ∧ PI A (tcStep ⟨M, n, la, t⟩).M tk (st + if (tcStep ⟨M, n, la, t⟩).t.done = true then 1 else 0) (tAt T k x (tcStep ⟨M, n, la, t⟩).t) (if hs k = true then ld else ldAt ld k (M A)) (hsAt hs k true) (i + 1) f := by
  have hb := hM A
  rcases h.tc k hk x t hT with h0 | ⟨h1, h2, h3, h4, h5⟩
  · exact absurd h0 ha
  · have up := h.up
    rcases h5 with ⟨hf, h6⟩ | ⟨hf, h6, h7, h8, h9⟩
    · -- fresh
      have e : tcStep ⟨M, n, la, t⟩ = ⟨M, n + 1, ⟨1, A, M A, M A⟩, ⟨if rfMarked (M A) then 0 else A, 1, M A, false⟩⟩ := by
        unfold tcStep; dsimp only; rw [if_neg ha, if_pos h6, h1, h2]
      refine ⟨⟨by rw [h1]; exact hAb.1, by rw [h1]; exact hAb.2, h3, h4, fun _ => .inl h6⟩, ?_, ?_⟩
      · rw [e]
        refine ⟨fun _ => ⟨?_, rfl⟩, fun _ => rfl, fun h => by cases h⟩
        unfold tcOver
        cases hm : rfMarked (M A)
        · simpa using hA0
        · rfl
      · have ei : (if hs k = true then ld else ldAt ld k (M A)) = ldAt ld k (M A) := by rw [hf]; rfl
        rw [e, ei]
        refine ⟨by dsimp only; omega, h.m5, h.t5, by simpa using h.st, fun j hj y u hu => ?_⟩
        unfold tAt at hu
        split at hu
        · rename_i ej
          cases hu
          unfold ldAt hsAt
          rw [if_pos ej, if_pos ej]
          cases hm : rfMarked (M A)
          · exact .inr ⟨rfl, rfl, hb.1, hb.2, .inr ⟨rfl, rfl, hm, Int.le_refl _, .inl rfl⟩⟩
          · exact .inl rfl
        · rename_i ej
          unfold ldAt hsAt
          rw [if_neg ej, if_neg ej]
          exact h.tc j hj y u hu
    · have rest : ∀ (M' : Int → Int) (t' : Tc), M A ≤ M' A → (tk = true → M' A = M A) → TI A M' tk t' (ld k) true → M' 5 = M 5 → ∀ j, j < 8 → ∀ y u, tAt T k x t' j = some (y, u) → TI A M' tk u ((if hs k = true then ld else ldAt ld k (M A)) j) (hsAt hs k true j) := by
        intro M' t' hm hmt hti _ j hj y u hu
        unfold tAt at hu
        rw [if_pos hf]
        unfold hsAt
        split at hu
        · rename_i ej
          cases hu
          rw [if_pos ej, ej]
          exact hti
        · rename_i ej
          rw [if_neg ej]
          exact (h.tc j hj y u hu).mono hm fun ht => .inl ht
      have hok : t.ok := ⟨by rw [h1]; exact hAb.1, by rw [h1]; exact hAb.2, h3, h4, fun _ => .inr (h9.imp id fun h => h.1)⟩
      rcases h9 with h9 | ⟨h9, h10⟩
      · -- the sweep
        by_cases h5 : M 5 = 0
        · have e : tcStep ⟨M, n, la, t⟩ = ⟨M, n + 1, ⟨1, 5, M 5, M 5⟩, ⟨A, 2, t.word, false⟩⟩ := by
            unfold tcStep; dsimp only; rw [if_neg ha, h9, if_neg (by decide), if_pos rfl, h1, h2, if_neg (fun h => h h5)]
          refine ⟨hok, ?_, ?_⟩
          · rw [e]; exact ⟨(fun h => by rw [hf] at h; cases h), (fun _ => rfl), (fun h => by cases h)⟩
          · rw [e]
            refine ⟨by dsimp only; omega, h.m5, h.t5, by simpa using h.st, rest M _ (Int.le_refl _) (fun _ => rfl) (.inr ⟨rfl, rfl, h3, h4, .inr ⟨rfl, h6, h7, h8, .inr ⟨rfl, fun ht => ?_⟩⟩⟩) rfl⟩
            have := (h.t5 ht).1
            omega
        · have e : tcStep ⟨M, n, la, t⟩ = ⟨M, n + 1, ⟨1, 5, M 5, M 5⟩, ⟨0, 2, t.word, false⟩⟩ := by
            unfold tcStep; dsimp only; rw [if_neg ha, h9, if_neg (by decide), if_pos rfl, h2, if_pos h5]
          refine ⟨hok, ?_, ?_⟩
          · rw [e]; exact ⟨(fun h => by rw [hf] at h; cases h), (fun _ => rfl), (fun h => by cases h)⟩
          · rw [e]
            exact ⟨by dsimp only; omega, h.m5, h.t5, by simpa using h.st, rest M _ (Int.le_refl _) (fun _ => rfl) (.inl rfl) rfl⟩
      · -- the CAS
        by_cases hc : M A = t.word
        · have htk : tk = false := by
            cases htk : tk
            · rfl
            · have := h10 htk; omega
          have hm : rfMarked (M A) = false := by rw [hc]; exact h7
          obtain ⟨q1, q2⟩ := mark_un hb.1 hm
          have e : tcStep ⟨M, n, la, t⟩ = ⟨upd M A (rfMark t.word), n + 1, ⟨3, A, t.word, rfMark t.word⟩, ⟨0, 3, t.word, true⟩⟩ := by
            unfold tcStep; dsimp only; rw [if_neg ha, h9, if_neg (by decide), if_neg (by decide), h1, if_pos hc]
          have e2 : upd M A (rfMark t.word) A = M A + 1 := by rw [upd_same, ← hc, q1]
          have e5 : upd M A (rfMark t.word) 5 = M 5 := upd_other _ hA
          refine ⟨hok, ?_, ?_⟩
          · rw [e]; exact ⟨(fun h => by rw [hf] at h; cases h), (fun h => by cases h), fun _ => ⟨rfl, hf, by rw [hc, h6], e2, q2, hm⟩⟩
          · rw [e]
            refine ⟨by dsimp only; rw [e2]; omega, by dsimp only; rw [e5]; exact h.m5, (fun ht => by rw [htk] at ht; cases ht), ?_, rest _ _ (by show M A ≤ upd M A (rfMark t.word) A; rw [e2]; omega) (fun ht => by rw [htk] at ht; cases ht) (.inl rfl) e5⟩
            show st + 1 = if rfMarked (upd M A (rfMark t.word) A) = true then 1 else 0
            have e3 : rfMarked (upd M A (rfMark t.word) A) = true := by rw [e2]; exact q2
            rw [if_pos e3, h.st, if_neg (by rw [hm]; simp)]
            rfl
        · have e : tcStep ⟨M, n, la, t⟩ = ⟨M, n + 1, ⟨3, A, M A, M A⟩, ⟨0, 3, t.word, false⟩⟩ := by
            unfold tcStep; dsimp only; rw [if_neg ha, h9, if_neg (by decide), if_neg (by decide), h1, if_neg hc]
          refine ⟨hok, ?_, ?_⟩
          · rw [e]; exact ⟨(fun h => by rw [hf] at h; cases h), (fun _ => rfl), (fun h => by cases h)⟩
          · rw [e]
            exact ⟨by dsimp only; omega, h.m5, h.t5, by simpa using h.st, rest M _ (Int.le_refl _) (fun _ => rfl) (.inl rfl) rfl⟩
end
end Go.Proofs.Ytijifjiehldcaaa
