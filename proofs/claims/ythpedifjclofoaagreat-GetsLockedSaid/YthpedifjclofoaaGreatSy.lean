/- Layer 25, plain: a Store that tells, and one that brings something new. -/
import Derived.Test.YthpedifjclofoaaGreatSx
namespace Go.Proofs.YthpedifjclofoaaGreat
set_option linter.unusedSimpArgs false
set_option linter.unusedVariables false
theorem st_tells {b : Int} {s : AW} {T : Tab} (S : Sw b s T) (t : Nat) (c : Clm) (mo : Int) (h : s.M 0 = s.M 1) {p : Spt} {r k : Int} (A : Stand1 b s.it T c.key p r) (hd : stDecide c (itAt s.it r) (s.M 8) = some k) :
    ∃ n s' z', n ≤ 60 ∧ Gos stOver (stStep t c mo) n (s, stNew) (s', z') ∧ stOver z' = true ∧ z'.an = k ∧ z'.nu = 0 ∧ StF s s' (s.M 7) (s.M 6) ∧ s'.it = s.it ∧ Sw b s' T := by
  obtain ⟨n, s4, tk, f, h1, h2, h4⟩ := st_there S t c mo h A
  have hp := A.ok
  have hv : 64 ≤ plVersion p.b p.q ∧ plVersion p.b p.q < 128 := hp.ver
  obtain ⟨x1, hx1⟩ : ∃ x, x = (s4.M (plVersion p.b p.q) + 1) % 18446744073709551616 := ⟨_, rfl⟩
  have hm : (awMark p s4).M = upd s4.M (plVersion p.b p.q) x1 := by rw [hx1]; rfl
  have m8 : (awMark p s4).M 8 = s.M 8 := by rw [hm, upd_other _ (by omega), h2.M, upd_other _ (by decide)]
  have hd4 : stDecide c (itAt (awMark p s4).it r) ((awMark p s4).M 8) = some k := by rw [m8]; show stDecide c (itAt s4.it r) _ = some k; rw [h2.it]; exact hd
  have g := h4.trans (st_not (t := t) (mo := mo) (tk := tk) (fd := f) (rm := stZ.rm) (pu := stZ.pu) (id := 0) (an := 0) (nu := 0) (ep := 0) (pt := 0) hd4)
  obtain ⟨s5, hs5⟩ : ∃ x, x = awLoad 8 (awMark p s4) := ⟨_, rfl⟩
  rw [← hs5] at g
  have h5 : s5.M = upd s4.M (plVersion p.b p.q) x1 := by rw [hs5]; exact hm
  obtain ⟨x2, hx2⟩ : ∃ x, x = (s5.M (plVersion p.b p.q) + 1) % 18446744073709551616 := ⟨_, rfl⟩
  have h6 : (awMark p s5).M = upd s5.M (plVersion p.b p.q) x2 := by rw [hx2]; rfl
  have h61 : (awMark p s5).M 1 = s.M 1 := by rw [h6, upd_other _ (by omega), h5, upd_other _ (by omega), h2.M, upd_other _ (by decide)]
  have h7 : (awGive (awMark p s5)).M = upd (upd s5.M (plVersion p.b p.q) x2) 1 ((s.M 1 + 1) % 18446744073709551616) := by
    show upd (awMark p s5).M 1 (((awMark p s5).M 1 + 1) % 18446744073709551616) = _
    rw [h61, h6]
  have lo : ∀ a, a ≠ 1 → a < 64 ∨ 4096 ≤ a → (awGive (awMark p s5)).M a = s4.M a := fun a a1 a2 => by
    rw [h7, upd_other _ a1, upd_other _ (by omega), h5, upd_other _ (by omega)]
  have hn5 : s5.n = s4.n + 2 := by
    rw [hs5]
    show s4.n + 1 + 1 = s4.n + 2
    omega
  have hi5 : s5.it = s.it := by rw [hs5]; exact h2.it
  have hn0 := h2.n0
  have hn1 := h2.n1
  have lo2 : ∀ a, a ≠ 0 → a ≠ 1 → a < 64 ∨ 4096 ≤ a → (awGive (awMark p s5)).M a = s.M a := fun a a0 a1 a2 => by rw [lo a a1 a2, h2.M, upd_other _ a0]
  refine ⟨n + 4, _, _, by omega, g, rfl, rfl, rfl, ⟨?_, ?_, lo2 2 (by decide) (by decide) (by omega), lo2 6 (by decide) (by decide) (by omega), lo2 7 (by decide) (by decide) (by omega), lo2 8 (by decide) (by decide) (by omega), ?_, rfl, ?_, ?_⟩, hi5, ?_⟩
  · rw [lo 0 (by decide) (by omega), h2.M, upd_same]
  · rw [h7, upd_same]
  · show s5.nt = s.nt
    rw [hs5]
    exact h2.nt
  · show s.n ≤ s5.n + 1 + 1
    omega
  · show s5.n + 1 + 1 ≤ s.n + 60
    omega
  · exact S.same (lo2 2 (by decide) (by decide) (by omega)) (fun a a1 _ => lo2 a (by omega) (by omega) (by omega)) hi5
theorem st_misses {b : Int} {s : AW} {T : Tab} (S : Sw b s T) (t : Nat) (c : Clm) (mo : Int) (h : s.M 0 = s.M 1) (A : ∀ p r, ¬ Stand1 b s.it T c.key p r) (hv : c.verb = 5 ∨ c.verb = 6) :
    ∃ n s' z', n ≤ 60 ∧ Gos stOver (stStep t c mo) n (s, stNew) (s', z') ∧ stOver z' = true ∧ z'.an = (if c.verb = 6 then 4 else 2) ∧ z'.nu = 0 ∧ StF s s' (s.M 7) (s.M 6) ∧ s'.it = s.it ∧ Sw b s' T := by
  obtain ⟨n, s4, tk, f, h1, h2, h4⟩ := st_away S t c mo h A
  rw [if_pos hv] at h4
  have g := h4.trans (st_miss (t := t) (c := c) (mo := mo) (s := s4))
  have h7 : (awGive (awLoad 8 s4)).M = upd s4.M 1 ((s.M 1 + 1) % 18446744073709551616) := by
    show upd s4.M 1 ((s4.M 1 + 1) % 18446744073709551616) = _
    rw [show s4.M 1 = s.M 1 by rw [h2.M, upd_other _ (by decide)]]
  have lo2 : ∀ a, a ≠ 0 → a ≠ 1 → (awGive (awLoad 8 s4)).M a = s.M a := fun a a0 a1 => by rw [h7, upd_other _ a1, h2.M, upd_other _ a0]
  have hn0 := h2.n0
  have hn1 := h2.n1
  refine ⟨n + 2, _, _, by omega, g, rfl, rfl, rfl, ⟨?_, ?_, lo2 2 (by decide) (by decide), lo2 6 (by decide) (by decide), lo2 7 (by decide) (by decide), lo2 8 (by decide) (by decide), h2.nt, rfl, ?_, ?_⟩, h2.it, ?_⟩
  · rw [h7, upd_other _ (by decide), h2.M, upd_same]
  · rw [h7, upd_same]
  · show s.n ≤ s4.n + 1 + 1
    omega
  · show s4.n + 1 + 1 ≤ s.n + 60
    omega
  · exact S.same (lo2 2 (by decide) (by decide)) (fun a a1 _ => lo2 a (by omega) (by omega)) h2.it
end Go.Proofs.YthpedifjclofoaaGreat
