/- Layer 25, plain: a Store in a world of one table, whole: the key is there; it is not. -/
import Derived.Test.YthpedifjclofoaaGreatSt
namespace Go.Proofs.YthpedifjclofoaaGreat
set_option linter.unusedSimpArgs false
set_option linter.unusedVariables false
/-- Behind the Find: the lock is taken, else nothing has changed. -/
structure St4 (t : Nat) (s s4 : AW) : Prop where
  M : s4.M = upd s.M 0 ((s.M 0 + 1) % 18446744073709551616)
  it : s4.it = s.it
  nt : s4.nt = s.nt
  ho : s4.ho = t
  tk : s4.tk = updN (updN s.tk t ((s.M 0 + 1) % 18446744073709551616)) t 0
  n0 : s.n ≤ s4.n
  n1 : s4.n ≤ s.n + 30
theorem Sw.st3 {b : Int} {s s3 : AW} {T : Tab} {t : Nat} (S : Sw b s T) (h : St3 t s s3) : Sw b s3 T :=
  S.same (by rw [h.M, upd_other _ (by decide)]) (fun a h1 _ => by rw [h.M, upd_other _ (by omega)]) h.it
theorem Sw.st4 {b : Int} {s s3 : AW} {T : Tab} {t : Nat} (S : Sw b s T) (h : St4 t s s3) : Sw b s3 T :=
  S.same (by rw [h.M, upd_other _ (by decide)]) (fun a h1 _ => by rw [h.M, upd_other _ (by omega)]) h.it
/-- Up to the end of the Find. -/
theorem st_find {b : Int} {s : AW} {T : Tab} (S : Sw b s T) (t : Nat) (c : Clm) (mo : Int) (h : s.M 0 = s.M 1) : ∃ n s4 tk f, n ≤ 30 ∧ St4 t s s4 ∧ fdRes s.it s4.M c.key fdNew f ((fdSpots c.key s4.M).find? (flHit s.it s4.M c.key)) ∧
    Gos stOver (stStep t c mo) n (s, stNew) (s4, stFound c { stZ with ln := 3, tk := tk, fd := f } f) := by
  obtain ⟨s3, tk3, h3, g3⟩ := st_begin t c mo s h
  obtain ⟨n, s4, f, f1, f2, f3, f4, f5, f6⟩ := fd_run c.key s3
  have hn0 : n ≠ 0 := by
    intro e
    rw [e] at f2
    have f2 : (s4, f) = (s3, fdNew) := f2.symm ▸ rfl
    have : f = fdNew := congrArg Prod.snd f2
    rw [this] at f3
    exact absurd f3 (List.cons_ne_nil _ _)
  obtain ⟨z', g4, e4⟩ := fd_lift t c mo n s3 s4 { stZ with ln := 3, tk := tk3 } f rfl hn0 f2 f3
  have hle := plPlaces_le (kyH c.key) (s3.M 2)
  refine ⟨3 + n, s4, tk3, f, by omega, ⟨f4.M.trans h3.M, f4.it.trans h3.it, f4.nt.trans h3.nt, f4.ho.trans h3.ho, f4.tk.trans h3.tk, ?_, ?_⟩, ?_, ?_⟩
  · rw [f4.n, h3.n]; omega
  · rw [f4.n, h3.n]; omega
  · rw [h3.it, ← f4.M] at f6
    exact f6
  · rw [← e4]
    exact g3.trans g4
theorem st_there {b : Int} {s : AW} {T : Tab} (S : Sw b s T) (t : Nat) (c : Clm) (mo : Int) (h : s.M 0 = s.M 1) {p : Spt} {r : Int} (A : Stand1 b s.it T c.key p r) :
    ∃ n s4 tk f, n ≤ 30 ∧ St4 t s s4 ∧ Gos stOver (stStep t c mo) n (s, stNew) (s4, ⟨4, tk, f, stVer p, stZ.rm, stZ.pu, p, r, 0, 0, 0, 0, 0⟩) := by
  obtain ⟨n, s4, tk, f, h1, h2, h3, h4⟩ := st_find S t c mo h
  have S4 := S.st4 h2
  have A4 : Stand1 b s4.it T c.key p r := by rw [h2.it]; exact A
  rw [← h2.it, S4.some A4] at h3
  obtain ⟨e1, e2⟩ := h3
  rw [S4.rep.it p A.ok, A.rf] at e2
  have : stFound c { stZ with ln := 3, tk := tk, fd := f } f = ⟨4, tk, f, stVer p, stZ.rm, stZ.pu, p, r, 0, 0, 0, 0, 0⟩ := by
    unfold stFound
    rw [if_pos (by rw [e2]; have := fdHit_pos A.hit; omega), e1, e2]
    rfl
  rw [this] at h4
  exact ⟨n, s4, tk, f, h1, h2, h4⟩
theorem st_away {b : Int} {s : AW} {T : Tab} (S : Sw b s T) (t : Nat) (c : Clm) (mo : Int) (h : s.M 0 = s.M 1) (A : ∀ p r, ¬ Stand1 b s.it T c.key p r) :
    ∃ n s4 tk f, n ≤ 30 ∧ St4 t s s4 ∧ Gos stOver (stStep t c mo) n (s, stNew) (s4, ⟨if c.verb = 5 ∨ c.verb = 6 then 10 else 11, tk, f, [], stZ.rm, stZ.pu, sp20, 0, 0, 0, 0, 0, 0⟩) := by
  obtain ⟨n, s4, tk, f, h1, h2, h3, h4⟩ := st_find S t c mo h
  have S4 := S.st4 h2
  rw [← h2.it, S4.none (by rw [h2.it]; exact A)] at h3
  obtain ⟨e1, e2⟩ := h3
  have e2 : f.ref = 0 := e2
  have : stFound c { stZ with ln := 3, tk := tk, fd := f } f = ⟨if c.verb = 5 ∨ c.verb = 6 then 10 else 11, tk, f, [], stZ.rm, stZ.pu, sp20, 0, 0, 0, 0, 0, 0⟩ := by
    unfold stFound
    rw [if_neg (by rw [e2]; decide)]
    rfl
  rw [this] at h4
  exact ⟨n, s4, tk, f, h1, h2, h4⟩
end Go.Proofs.YthpedifjclofoaaGreat
