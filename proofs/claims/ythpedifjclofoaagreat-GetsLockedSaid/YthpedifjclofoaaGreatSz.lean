/- Layer 25, plain: a Store that brings something new, into a slot that the first look finds free. -/
import Derived.Test.YthpedifjclofoaaGreatSy
namespace Go.Proofs.YthpedifjclofoaaGreat
set_option linter.unusedSimpArgs false
set_option linter.unusedVariables false
theorem st_news {b : Int} {s : AW} {T : Tab} (S : Sw b s T) (t : Nat) (c : Clm) (mo : Int) (h : s.M 0 = s.M 1) (A : ∀ p r, ¬ Stand1 b s.it T c.key p r) (hv : ¬ (c.verb = 5 ∨ c.verb = 6))
    (hf : 0 ≤ twFree (s.M (plTags b (fnvBucket (kyH c.key) b)))) :
    ∃ n s' z' p, n ≤ 60 ∧ Gos stOver (stStep t c mo) n (s, stNew) (s', z') ∧ stOver z' = true ∧ z'.an = 1 ∧ z'.nu = (s.M 7 + 1) % 18446744073709551616 ∧
      StF s s' ((s.M 7 + 1) % 18446744073709551616) ((s.M 6 + 1) % 18446744073709551616) ∧ s'.it = s.it ++ [stIt c ((s.M 7 + 1) % 18446744073709551616) (s.M 8)] ∧
      Sw b s' (T.set p (fnvTag (kyH c.key), s.it.length + 1)) ∧ Stand1 b s'.it (T.set p (fnvTag (kyH c.key), s.it.length + 1)) c.key p (s.it.length + 1) ∧
      (∀ l q r, Stand1 b s.it T l q r → Stand1 b s'.it (T.set p (fnvTag (kyH c.key), s.it.length + 1)) l q r) ∧
      ∀ a, 64 ≤ a → a < 128 → s'.M a % 2 = s.M a % 2 := by
  obtain ⟨n, s4, tk, f, h1, h2, h4⟩ := st_away S t c mo h A
  rw [if_neg hv] at h4
  have S4 := S.st4 h2
  have hb0 := S.b0
  have hb1 := S.b1
  have hk := kyH_bd c.key
  have hbk := fnvBucket_bd (h := kyH c.key) hb0 (by omega : b ≤ 12)
  obtain ⟨p, hpe⟩ : ∃ p : Spt, p = ⟨b, fnvBucket (kyH c.key) b, twFree (s.M (plTags b (fnvBucket (kyH c.key) b)))⟩ := ⟨_, rfl⟩
  have hfb := twFree_bd (s.M (plTags b (fnvBucket (kyH c.key) b)))
  have hp : p.ok := by rw [hpe]; exact ⟨hb0, by dsimp only; omega, hbk.1, hbk.2, hf, by dsimp only; omega⟩
  have hpb : p.b = b := by rw [hpe]
  have hpq : p.q = fnvBucket (kyH c.key) b := by rw [hpe]
  have hpt : p.tags = plTags b (fnvBucket (kyH c.key) b) := by rw [hpe]; rfl
  have ht4 : s4.M (plTags b (fnvBucket (kyH c.key) b)) = s.M (plTags b (fnvBucket (kyH c.key) b)) := by
    have := hp.tags
    rw [hpt] at this
    rw [h2.M, upd_other _ (by omega)]
  obtain ⟨rm', pu', g5⟩ := st_new (t := t) (c := c) (mo := mo) (s := s4) (tk := tk) (fd := f) (rm := stZ.rm) (pu := stZ.pu) (p := p) (ref := 0) (id := 0) (an := 0) (nu := 0) (ep := 0) (pt := 0) (m := []) (p0 := sp20) hb0 (by omega) S4.wd (by rw [ht4]; exact hf) (by rw [ht4]; exact hpe)
  have g := h4.trans g5
  have hv : 64 ≤ plVersion p.b p.q ∧ plVersion p.b p.q < 128 := hp.ver
  have hi := hp.item
  have htg := hp.tags
  obtain ⟨sL, hsL⟩ : ∃ x, x = awLooks b (fnvBucket (kyH c.key) b) s4 := ⟨_, rfl⟩
  have hLM : sL.M = s4.M := by rw [hsL]; rfl
  have hLi : sL.it = s.it := by rw [hsL]; exact h2.it
  have hLn : sL.n = s4.n + 3 := by rw [hsL]; show s4.n + 1 + 1 + 1 = s4.n + 3; omega
  have hLt : sL.nt = s.nt := by rw [hsL]; exact h2.nt
  rw [← hsL] at g
  obtain ⟨x1, hx1⟩ : ∃ x, x = (sL.M (plVersion p.b p.q) + 1) % 18446744073709551616 := ⟨_, rfl⟩
  have hm : (awMark p sL).M = upd s4.M (plVersion p.b p.q) x1 := by rw [hx1, ← hLM]; rfl
  have m8 : (awMark p sL).M 8 = s.M 8 := by rw [hm, upd_other _ (by omega), h2.M, upd_other _ (by decide)]
  have m7 : (awMark p sL).M 7 = s.M 7 := by rw [hm, upd_other _ (by omega), h2.M, upd_other _ (by decide)]
  have hid : stId (awMark p sL) = (s.M 7 + 1) % 18446744073709551616 := by unfold stId; rw [m7]
  rw [hid, m8] at g
  obtain ⟨s5, hs5⟩ : ∃ x, x = awNew c p (awMark p sL) := ⟨_, rfl⟩
  obtain ⟨i7, hi7⟩ : ∃ x, x = (s.M 7 + 1) % 18446744073709551616 := ⟨_, rfl⟩
  obtain ⟨tw, htw⟩ : ∃ x, x = twWith (s4.M p.tags) p.s (fnvTag (kyH c.key)) := ⟨_, rfl⟩
  have hit : p.item ≠ p.tags := by have := hp.s0; omega
  have h5 : s5.M = upd (upd (upd (upd (upd s4.M (plVersion p.b p.q) x1) 7 i7) p.item (s.it.length + 1)) p.tags tw) 6 ((s.M 6 + 1) % 18446744073709551616) := by
    have e1 : s5.M = upd (upd (upd (upd (awMark p sL).M 7 (((awMark p sL).M 7 + 1) % 18446744073709551616)) p.item ((sL.it.length : Int) + 1)) p.tags (twWith (upd (upd (awMark p sL).M 7 (((awMark p sL).M 7 + 1) % 18446744073709551616)) p.item ((sL.it.length : Int) + 1) p.tags) p.s (fnvTag (kyH c.key)))) 6 ((upd (upd (upd (awMark p sL).M 7 (((awMark p sL).M 7 + 1) % 18446744073709551616)) p.item ((sL.it.length : Int) + 1)) p.tags (twWith (upd (upd (awMark p sL).M 7 (((awMark p sL).M 7 + 1) % 18446744073709551616)) p.item ((sL.it.length : Int) + 1) p.tags) p.s (fnvTag (kyH c.key))) 6 + 1) % 18446744073709551616) := by rw [hs5]; rfl
    have e6 : ∀ x y z : Int, upd (upd (upd (awMark p sL).M 7 x) p.item y) p.tags z 6 = s.M 6 := fun x y z => by
      rw [upd_other _ (by omega), upd_other _ (by omega), upd_other _ (by decide), hm, upd_other _ (by omega), h2.M, upd_other _ (by decide)]
    have et : ∀ x y : Int, upd (upd (awMark p sL).M 7 x) p.item y p.tags = s4.M p.tags := fun x y => by
      rw [upd_other _ (fun e => hit e.symm), upd_other _ (by omega), hm, upd_other _ (by omega)]
    rw [e1, e6, et, m7, hm, hLi, hi7, htw]
  have h5i : s5.it = s.it ++ [stIt c i7 (s.M 8)] := by
    rw [hs5]
    show sL.it ++ [stIt c (stId (awMark p sL)) ((awMark p sL).M 8)] = _
    rw [hid, m8, hLi, hi7]
  obtain ⟨x2, hx2⟩ : ∃ x, x = (s5.M (plVersion p.b p.q) + 1) % 18446744073709551616 := ⟨_, rfl⟩
  have h6 : (awMark p s5).M = upd s5.M (plVersion p.b p.q) x2 := by rw [hx2]; rfl
  have h51 : ∀ a, a ≠ 7 → a ≠ 6 → a < 64 → s5.M a = s4.M a := fun a a7 a6 a2 => by
    rw [h5, upd_other _ a6, upd_other _ (by omega), upd_other _ (by omega), upd_other _ a7, upd_other _ (by omega)]
  have h61 : (awMark p s5).M 1 = s.M 1 := by
    rw [h6, upd_other _ (by omega), h51 1 (by decide) (by decide) (by decide), h2.M, upd_other _ (by decide)]
  have h7 : (awGive (awMark p s5)).M = upd (upd s5.M (plVersion p.b p.q) x2) 1 ((s.M 1 + 1) % 18446744073709551616) := by
    show upd (awMark p s5).M 1 (((awMark p s5).M 1 + 1) % 18446744073709551616) = _
    rw [h61, h6]
  rw [← hs5, ← hi7] at g
  have lo : ∀ a, a ≠ 1 → a ≠ 7 → a ≠ 6 → a < 64 → (awGive (awMark p s5)).M a = s4.M a := fun a a1 a7 a6 a2 => by
    rw [h7, upd_other _ a1, upd_other _ (by omega), h51 a a7 a6 a2]
  have hx : (b, p.q) ∈ plPair (kyH c.key) b := by rw [plPair_in hb0 (by omega), hpq]; exact List.mem_cons_self ..
  have htgb := fnvTag_bd (kyH c.key) hk.1 hk.2
  have hrep : Rep (awGive (awMark p s5)).M (T.set p (fnvTag (kyH c.key), s.it.length + 1)) := by
    refine S4.rep.slot (M' := (awGive (awMark p s5)).M) hp (by omega) htgb.2 ?_ ?_ (fun a a1 _ a3 a4 => ?_)
    · rw [h7, upd_other _ (by omega), upd_other _ (by omega), h5, upd_other _ (by omega), upd_same, htw]
    · rw [h7, upd_other _ (by omega), upd_other _ (by omega), h5, upd_other _ (by omega), upd_other _ hit, upd_same]
    · rw [h7, upd_other _ (by omega), upd_other _ (by omega), h5, upd_other _ (by omega), upd_other _ a3, upd_other _ a4, upd_other _ (by omega), upd_other _ (by omega)]
  have e2 : (awGive (awMark p s5)).M 2 = s.M 2 := by rw [lo 2 (by decide) (by decide) (by decide) (by decide), h2.M, upd_other _ (by decide)]
  have hsw := Sw.put S (x := stIt c i7 (s.M 8)) (s' := awGive (awMark p s5)) hp hpb hx (fun q u hq => absurd hq (A q u)) e2 hrep h5i
  have hn5 : s5.n = s4.n + 10 := by
    rw [hs5]
    show sL.n + 1 + 1 + 1 + 1 + 1 + 1 + 1 = s4.n + 10
    omega
  have hn0 := h2.n0
  have hn1 := h2.n1
  refine ⟨n + 12, _, _, p, by omega, g, rfl, rfl, hi7.symm ▸ rfl, ⟨?_, ?_, e2, ?_, ?_, ?_, ?_, rfl, ?_, ?_⟩, by rw [← hi7]; exact h5i, hsw.1, hsw.2.1, ?_, ?_⟩
  · rw [lo 0 (by decide) (by decide) (by decide) (by decide), h2.M, upd_same]
  · rw [h7, upd_same]
  · rw [h7, upd_other _ (by decide), upd_other _ (by omega), h5, upd_same]
  · rw [h7, upd_other _ (by decide), upd_other _ (by omega), h5, upd_other _ (by decide), upd_other _ (by omega), upd_other _ (by omega), upd_same, hi7]
  · rw [lo 8 (by decide) (by decide) (by decide) (by decide), h2.M, upd_other _ (by decide)]
  · show s5.nt = s.nt
    rw [hs5]
    exact hLt
  · show s.n ≤ s5.n + 1 + 1
    omega
  · show s5.n + 1 + 1 ≤ s.n + 60
    omega
  · intro l q r hq
    refine hsw.2.2 l q r (fun e => A q r (by have e : l = c.key := e; rw [← e]; exact hq)) hq (fun e => ?_)
    subst e
    have g1 := (hq.at S).1
    have := S.rep.tg q hp
    rw [hpt, g1] at this
    have hps : q.s = twFree (s.M (plTags b (fnvBucket (kyH c.key) b))) := by rw [hpe]
    rw [hps, twFree_pos hf] at this
    have := fnvTag_bd (kyH l) (kyH_bd l).1 (kyH_bd l).2
    omega
  · intro a h1' h2'
    rw [h7, upd_other _ (by omega)]
    by_cases e : a = plVersion p.b p.q
    · rw [e, upd_same, hx2, h5, upd_other _ (by omega), upd_other _ (by omega), upd_other _ (by omega), upd_other _ (by omega), upd_same, hx1, hLM, h2.M, upd_other _ (by omega)]
      omega
    · rw [upd_other _ e, h5, upd_other _ (by omega), upd_other _ (by omega), upd_other _ (by omega), upd_other _ (by omega), upd_other _ e, h2.M, upd_other _ (by omega)]
end Go.Proofs.YthpedifjclofoaaGreat
