/- Layer 25, plain: a Store in a world of one table: the way to the key, and the way home. -/
import Derived.Test.YthpedifjclofoaaGreatSr
namespace Go.Proofs.YthpedifjclofoaaGreat
set_option linter.unusedSimpArgs false
set_option linter.unusedVariables false
theorem Sw.same {b : Int} {s s' : AW} {T : Tab} (S : Sw b s T) (e2 : s'.M 2 = s.M 2) (e : ∀ a, 4096 ≤ a → a < 4294967296 → s'.M a = s.M a) (hi : s'.it = s.it) : Sw b s' T :=
  ⟨S.b0, S.b1, e2.trans S.wd, S.rep.low e, by rw [hi]; exact S.sl, by rw [hi]; exact S.one⟩
/-- Where a Find's end leads. -/
def stFound (c : Clm) (z : Stm) (f : Fdm) : Stm := if 0 < f.ref then { z with fd := f, ln := 4, p := f.p, ref := f.ref, ml := stVer f.p } else { z with fd := f, ln := if c.verb = 5 ∨ c.verb = 6 then 10 else 11 }
theorem stStep_3 (t : Nat) (c : Clm) (mo : Int) (s : AW) (z : Stm) (h : z.ln = 3) : stStep t c mo (s, z) = ((fdStep c.key (s, z.fd)).1, if (fdStep c.key (s, z.fd)).2.left = [] then stFound c z (fdStep c.key (s, z.fd)).2 else { z with fd := (fdStep c.key (s, z.fd)).2 }) := by
  obtain ⟨ln, tk, fd, ml, rm, pu, p, ref, id, an, nu, ep, pt⟩ := z
  cases h
  unfold stStep
  dsimp only
  cases e : (fdStep c.key (s, fd)).2.left with
  | nil => rw [if_pos rfl]; rfl
  | cons a l => rw [if_neg (List.cons_ne_nil a l)]; rfl
theorem fd_lift (t : Nat) (c : Clm) (mo : Int) : ∀ (n : Nat) (s s' : AW) (z : Stm) (f' : Fdm), z.ln = 3 → n ≠ 0 → Gos fdOver (fdStep c.key) n (s, z.fd) (s', f') → f'.left = [] →
    ∃ z', Gos stOver (stStep t c mo) n (s, z) (s', z') ∧ z' = stFound c { z with fd := f' } f' := by
  intro n
  induction n with
  | zero => intro s s' z f' _ h; exact absurd rfl h
  | succ n ih =>
    intro s s' z f' hl _ hg hf
    obtain ⟨h1, h2⟩ := hg
    have hov : stOver z = false := by unfold stOver; rw [hl]; rfl
    have hst := stStep_3 t c mo s z hl
    cases n with
    | zero =>
      have h2 : (s', f') = fdStep c.key (s, z.fd) := h2
      rw [← h2] at hst
      dsimp only at hst
      rw [if_pos hf] at hst
      refine ⟨_, Gos.one hov hst, ?_⟩
      unfold stFound
      split <;> rfl
    | succ n =>
      have hne : ¬ (fdStep c.key (s, z.fd)).2.left = [] := by
        have h3 : fdOver (fdStep c.key (s, z.fd)).2 = false := h2.1
        intro e
        unfold fdOver at h3
        rw [e] at h3
        exact absurd h3 (by decide)
      rw [if_neg hne] at hst
      obtain ⟨z', g1, g2⟩ := ih (fdStep c.key (s, z.fd)).1 s' { z with fd := (fdStep c.key (s, z.fd)).2 } f' hl (by omega) h2 hf
      refine ⟨z', ?_, g2⟩
      have := Gos.trans (Gos.one hov hst) g1
      rw [Nat.add_comm] at this
      exact this
/-- The lock is taken, and no table is under way: behind three steps the Find begins. -/
structure St3 (t : Nat) (s s3 : AW) : Prop where
  M : s3.M = upd s.M 0 ((s.M 0 + 1) % 18446744073709551616)
  it : s3.it = s.it
  nt : s3.nt = s.nt
  ho : s3.ho = t
  tk : s3.tk = updN (updN s.tk t ((s.M 0 + 1) % 18446744073709551616)) t 0
  n : s3.n = s.n + 3
theorem st_begin (t : Nat) (c : Clm) (mo : Int) (s : AW) (h : s.M 0 = s.M 1) : ∃ s3 tk3, St3 t s s3 ∧ Gos stOver (stStep t c mo) 3 (s, stNew) (s3, { stZ with ln := 3, tk := tk3 }) := by
  refine ⟨awLoad 2 (awServed t (awLoad 1 (awDraw t s))), ⟨0, s.M 0, true⟩, ⟨rfl, rfl, rfl, rfl, rfl, ?_⟩, ?_⟩
  · show s.n + 1 + 1 + 1 = s.n + 3; omega
  · have e1 : stStep t c mo (s, stNew) = (awDraw t s, { stZ with ln := 1, tk := ⟨2, s.M 0, true⟩ }) := rfl
    have e2 : stStep t c mo (awDraw t s, { stZ with ln := 1, tk := ⟨2, s.M 0, true⟩ }) = (awServed t (awLoad 1 (awDraw t s)), { stZ with ln := 2, tk := ⟨0, s.M 0, true⟩ }) := by
      have hm : (awDraw t s).M 1 = s.M 0 := by show upd s.M 0 ((s.M 0 + 1) % 18446744073709551616) 1 = _; rw [upd_other _ (by decide), h]
      have hk : tkStep t (awDraw t s) ⟨2, s.M 0, true⟩ = (awServed t (awLoad 1 (awDraw t s)), ⟨0, s.M 0, true⟩) := by
        unfold tkStep
        rw [if_neg (show ¬ (2 : Nat) = 1 by decide), if_pos rfl]
        rw [if_pos (by rw [hm]; exact beq_self_eq_true _)]
      show ((tkStep t (awDraw t s) ⟨2, s.M 0, true⟩).1, _) = _
      rw [hk]
      rfl
    exact ⟨rfl, by rw [e1]; exact ⟨rfl, by rw [e2]; exact ⟨rfl, rfl⟩⟩⟩
end Go.Proofs.YthpedifjclofoaaGreat
