/- Layer 25, plain: a Store that replaces what is there. -/
import Derived.Test.YthpedifjclofoaaGreatSv
namespace Go.Proofs.YthpedifjclofoaaGreat
set_option linter.unusedSimpArgs false
set_option linter.unusedVariables false
theorem Rep.item {M M' : Int → Int} {T : Tab} (h : Rep M T) {p : Spt} (hp : p.ok) {rf : Int} (e2 : M' p.item = rf)
    (e3 : ∀ a, 4096 ≤ a → a < 4294967296 → a ≠ p.item → M' a = M a) : Rep M' (T.set p ((T p).1, rf)) := by
  refine ⟨fun q hq => ?_, fun q hq => ?_, fun q hq => ?_⟩
  · rw [e3 _ hq.tags.1 hq.tags.2.1 (fun x => Spt.item_tags hp hq x.symm)]
    by_cases c : q.is p
    · have := Spt.is_eq c
      subst this
      rw [Tab.set_same]
      exact h.tg q hq
    · rw [Tab.set_ne _ c]; exact h.tg q hq
  · by_cases c : q.item = p.item
    · have := Spt.is_eq (Spt.item_is hq hp c)
      subst this
      rw [Tab.set_same, e2]
    · rw [e3 _ hq.item.1 hq.item.2.1 c, Tab.set_ne _ (fun x => c (by rw [Spt.is_eq x]))]
      exact h.it q hq
  · rw [e3 _ hq.tags.1 hq.tags.2.1 (fun x => Spt.item_tags hp hq x.symm)]
    exact h.wd q hq
/-- The words that all share, behind a Store. -/
structure StF (s s' : AW) (ids cnt : Int) : Prop where
  m0 : s'.M 0 = (s.M 0 + 1) % 18446744073709551616
  m1 : s'.M 1 = (s.M 1 + 1) % 18446744073709551616
  m2 : s'.M 2 = s.M 2
  m6 : s'.M 6 = cnt
  m7 : s'.M 7 = ids
  m8 : s'.M 8 = s.M 8
  nt : s'.nt = s.nt
  ho : s'.ho = -1
  n0 : s.n ≤ s'.n
  n1 : s'.n ≤ s.n + 60
theorem st_replaces {b : Int} {s : AW} {T : Tab} (S : Sw b s T) (t : Nat) (c : Clm) (mo : Int) (h : s.M 0 = s.M 1) {p : Spt} {r : Int} (A : Stand1 b s.it T c.key p r) (hd : stDecide c (itAt s.it r) (s.M 8) = none) :
    ∃ n s' z', n ≤ 60 ∧ Gos stOver (stStep t c mo) n (s, stNew) (s', z') ∧ stOver z' = true ∧ z'.an = 1 ∧ z'.nu = (s.M 7 + 1) % 18446744073709551616 ∧
      StF s s' ((s.M 7 + 1) % 18446744073709551616) (s.M 6) ∧ s'.it = s.it ++ [stIt c ((s.M 7 + 1) % 18446744073709551616) (s.M 8)] ∧
      Sw b s' (T.set p (fnvTag (kyH c.key), s.it.length + 1)) ∧ Stand1 b s'.it (T.set p (fnvTag (kyH c.key), s.it.length + 1)) c.key p (s.it.length + 1) := by
  obtain ⟨n, s4, tk, f, h1, h2, h4⟩ := st_there S t c mo h A
  have S4 := S.st4 h2
  have hp := A.ok
  have hv : 64 ≤ plVersion p.b p.q ∧ plVersion p.b p.q < 128 := hp.ver
  have hi := hp.item
  have e7 : s4.M 7 = s.M 7 := by rw [h2.M, upd_other _ (by decide)]
  have e8 : s4.M 8 = s.M 8 := by rw [h2.M, upd_other _ (by decide)]
  obtain ⟨x1, hx1⟩ : ∃ x, x = (s4.M (plVersion p.b p.q) + 1) % 18446744073709551616 := ⟨_, rfl⟩
  have hm : (awMark p s4).M = upd s4.M (plVersion p.b p.q) x1 := by rw [hx1]; rfl
  have m8 : (awMark p s4).M 8 = s.M 8 := by rw [hm, upd_other _ (by omega), e8]
  have m7 : (awMark p s4).M 7 = s.M 7 := by rw [hm, upd_other _ (by omega), e7]
  have hid : stId (awMark p s4) = (s.M 7 + 1) % 18446744073709551616 := by unfold stId; rw [m7]
  have hd4 : stDecide c (itAt (awMark p s4).it r) ((awMark p s4).M 8) = none := by rw [m8]; show stDecide c (itAt s4.it r) _ = none; rw [h2.it]; exact hd
  have g := h4.trans (st_repl (t := t) (mo := mo) (tk := tk) (fd := f) (rm := stZ.rm) (pu := stZ.pu) (id := 0) (an := 0) (nu := 0) (ep := 0) (pt := 0) hd4)
  rw [hid, m8] at g
  obtain ⟨s5, hs5⟩ : ∃ x, x = awRepl c p (awMark p s4) := ⟨_, rfl⟩
  obtain ⟨i7, hi7⟩ : ∃ x, x = (s.M 7 + 1) % 18446744073709551616 := ⟨_, rfl⟩
  have h5 : s5.M = upd (upd (upd s4.M (plVersion p.b p.q) x1) 7 i7) p.item (s.it.length + 1) := by
    rw [hs5]
    show upd (upd (awMark p s4).M 7 (((awMark p s4).M 7 + 1) % 18446744073709551616)) p.item ((s4.it.length : Int) + 1) = _
    rw [m7, hm, h2.it, hi7]
  have h5i : s5.it = s.it ++ [stIt c i7 (s.M 8)] := by
    rw [hs5]
    show s4.it ++ [stIt c (stId (awMark p s4)) ((awMark p s4).M 8)] = _
    rw [hid, m8, h2.it, hi7]
  obtain ⟨x2, hx2⟩ : ∃ x, x = (s5.M (plVersion p.b p.q) + 1) % 18446744073709551616 := ⟨_, rfl⟩
  have h6 : (awMark p s5).M = upd s5.M (plVersion p.b p.q) x2 := by rw [hx2]; rfl
  have h61 : (awMark p s5).M 1 = s.M 1 := by
    rw [h6, upd_other _ (by omega), h5, upd_other _ (by omega), upd_other _ (by omega), upd_other _ (by omega), h2.M, upd_other _ (by decide)]
  have h7 : (awGive (awMark p s5)).M = upd (upd s5.M (plVersion p.b p.q) x2) 1 ((s.M 1 + 1) % 18446744073709551616) := by
    show upd (awMark p s5).M 1 (((awMark p s5).M 1 + 1) % 18446744073709551616) = _
    rw [h61, h6]
  rw [← hs5, ← hi7] at g
  have lo : ∀ a, a ≠ 1 → a ≠ 7 → a < 64 → (awGive (awMark p s5)).M a = s4.M a := fun a a1 a7 a2 => by
    rw [h7, upd_other _ a1, upd_other _ (by omega), h5, upd_other _ (by omega), upd_other _ a7, upd_other _ (by omega)]
  have hx := (A.at S).2
  have hrep : Rep (awGive (awMark p s5)).M (T.set p (fnvTag (kyH c.key), s.it.length + 1)) := by
    have := S4.rep.item (M' := (awGive (awMark p s5)).M) hp (rf := s.it.length + 1) (by rw [h7, upd_other _ (by omega), upd_other _ (by omega), h5, upd_same]) (fun a a1 _ a3 => by
      rw [h7, upd_other _ (by omega), upd_other _ (by omega), h5, upd_other _ a3, upd_other _ (by omega), upd_other _ (by omega)])
    rw [(A.at S).1] at this
    exact this
  have e2 : (awGive (awMark p s5)).M 2 = s.M 2 := by rw [lo 2 (by decide) (by decide) (by decide), h2.M, upd_other _ (by decide)]
  have hsw := Sw.put S (x := stIt c i7 (s.M 8)) (s' := awGive (awMark p s5)) hp A.tb hx (fun q u hq => S.one _ _ _ _ _ hq A) e2 hrep h5i
  have hn5 : s5.n = s4.n + 4 := by
    rw [hs5]
    show s4.n + 1 + 1 + 1 + 1 = s4.n + 4
    omega
  have hn0 := h2.n0
  have hn1 := h2.n1
  refine ⟨n + 6, _, _, by omega, g, rfl, rfl, hi7.symm ▸ rfl, ⟨?_, ?_, e2, ?_, ?_, ?_, ?_, rfl, ?_, ?_⟩, by rw [← hi7]; exact h5i, hsw.1, hsw.2.1⟩
  · rw [lo 0 (by decide) (by decide) (by decide), h2.M, upd_same]
  · rw [h7, upd_same]
  · rw [lo 6 (by decide) (by decide) (by decide), h2.M, upd_other _ (by decide)]
  · rw [h7, upd_other _ (by decide), upd_other _ (by omega), h5, upd_other _ (by omega), upd_same, hi7]
  · rw [lo 8 (by decide) (by decide) (by decide), h2.M, upd_other _ (by decide)]
  · show s5.nt = s.nt
    rw [hs5]
    exact h2.nt
  · show s.n ≤ s5.n + 1 + 1
    omega
  · show s5.n + 1 + 1 ≤ s.n + 60
    omega
end Go.Proofs.YthpedifjclofoaaGreat
