/- Layer 26, plain: a Change in a world of one table that tells and changes nothing. Layer 26, plain: a Change in a world of one table that brings a new record: a touch, a count. Layer 26, plain: a Change in a world of one table that takes a key away. Layer 26, plain: Changes of one key, one behind the other. -/
import Derived.Test.YtifkfhnbkjkakaaGreatDoorZrSG
namespace Go.Proofs.YtifkfhnbkjkakaaGreatDoor
set_option linter.unusedSimpArgs false
set_option linter.unusedVariables false
section
section
variable {t : Nat} {c : Clm} {s : AW} {tk : Tkm} {fd : Fdm} {o : Otm} {p : Spt} {ref an nu ep pt ka kn : Int} {rr : It} {m : List Int}
theorem ch_not {k : Int} (h : ∀ S Z, Z.ep = (awMark p s).M 8 → chFound c (itAt s.it ref) S Z = (S, chMarks k Z)) (hp : ∀ x : Chm, x.p = p → stVer x.p = stVer p) :
 Gos chOver (chStep t c) 4 (s, ⟨4, tk, fd, stVer p, o, p, ref, rr, an, nu, ep, pt, ka, kn⟩) (awGive (awMark p (awLoad 8 (awMark p s))), ⟨0, tk, fd, [], o, p, ref, rr, k, nu, (awMark p s).M 8, (awMark p s).n + 1, ka, kn⟩) := by
 refine ⟨rfl, rfl, ?_⟩
 show Gos chOver (chStep t c) 2 (chStep t c (awMark p s, ⟨5, tk, fd, [], o, p, ref, rr, an, nu, ep, pt, ka, kn⟩)) _
 have e : chStep t c (awMark p s, ⟨5, tk, fd, [], o, p, ref, rr, an, nu, ep, pt, ka, kn⟩) = (awLoad 8 (awMark p s), ⟨8, tk, fd, stVer p, o, p, ref, rr, k, nu, (awMark p s).M 8, (awMark p s).n + 1, ka, kn⟩) := by
  show chFound c (itAt s.it ref) (awLoad 8 (awMark p s)) ⟨5, tk, fd, [], o, p, ref, rr, an, nu, (awMark p s).M 8, (awMark p s).n + 1, ka, kn⟩ = _
  rw [h _ _ rfl]
  rfl
 rw [e]
 exact ⟨rfl, rfl, rfl⟩
theorem ch_miss : Gos chOver (chStep t c) 2 (s, ⟨10, tk, fd, m, o, p, ref, rr, an, nu, ep, pt, ka, kn⟩) (awGive (awLoad 8 s), ⟨0, tk, fd, m, o, p, ref, rr, 4, nu, s.M 8, s.n + 1, ka, kn⟩) := ⟨rfl, rfl, rfl⟩
end
theorem ch_tells {b : Int} {s : AW} {T : Tab} (S : Sw b s T) (t : Nat) (c : Clm) (h : s.M 0 = s.M 1) {p : Spt} {r k : Int} (A : Stand1 b s.it T c.key p r) (hd : ∀ S Z, Z.ep = s.M 8 → chFound c (itAt s.it r) S Z = (S, chMarks k Z)) :
 ∃ n s' z', n ≤ 60 ∧ Gos chOver (chStep t c) n (s, chNew) (s', z') ∧ chOver z' = true ∧ z'.an = k ∧ z'.nu = 0 ∧ StF s s' (s.M 7) (s.M 6) ∧ s'.it = s.it ∧ Sw b s' T := by
 obtain ⟨n, s4, tk, f, h1, h2, h4⟩ := ch_there S t c h A
 have hp := A.ok
 have hv : 64 ≤ plVersion p.b p.q ∧ plVersion p.b p.q < 128 := hp.ver
 obtain ⟨x1, hx1⟩ : ∃ x, x = (s4.M (plVersion p.b p.q) + 1) % 18446744073709551616 := ⟨_, rfl⟩
 have hm : (awMark p s4).M = upd s4.M (plVersion p.b p.q) x1 := by rw [hx1]; rfl
 have m8 : (awMark p s4).M 8 = s.M 8 := by rw [hm, upd_other _ (by omega), h2.M, upd_other _ (by decide)]
 have g := h4.trans (ch_not (t := t) (c := c) (s := s4) (tk := tk) (fd := f) (o := chNew.o) (p := p) (ref := r) (rr := chNew.r) (an := 0) (nu := 0) (ep := 0) (pt := 0) (ka := 0) (kn := 0) (k := k) (fun S Z e => by rw [h2.it]; exact hd S Z (e.trans m8)) (fun x e => by rw [e]))
 obtain ⟨s5, hs5⟩ : ∃ x, x = awLoad 8 (awMark p s4) := ⟨_, rfl⟩
 rw [← hs5] at g
 have h5 : s5.M = upd s4.M (plVersion p.b p.q) x1 := by rw [hs5]; exact hm
 obtain ⟨x2, hx2⟩ : ∃ x, x = (s5.M (plVersion p.b p.q) + 1) % 18446744073709551616 := ⟨_, rfl⟩
 have h6 : (awMark p s5).M = upd s5.M (plVersion p.b p.q) x2 := by rw [hx2]; rfl
 have h61 : (awMark p s5).M 1 = s.M 1 := by rw [h6, upd_other _ (by omega), h5, upd_other _ (by omega), h2.M, upd_other _ (by decide)]
 have h7 : (awGive (awMark p s5)).M = upd (upd s5.M (plVersion p.b p.q) x2) 1 ((s.M 1 + 1) % 18446744073709551616) := by
  show upd (awMark p s5).M 1 (((awMark p s5).M 1 + 1) % 18446744073709551616) = _
  rw [h61, h6]
 have lo : ∀ a, a ≠ 1 → a < 64 ∨ 4096 ≤ a → (awGive (awMark p s5)).M a = s4.M a := fun a a1 a2 => by
  rw [h7, upd_other _ a1, upd_other _ (by omega), h5, upd_other _ (by omega)]
 have hn5 : s5.n = s4.n + 2 := by
  rw [hs5]
  show s4.n + 1 + 1 = s4.n + 2
  omega
 have hi5 : s5.it = s.it := by rw [hs5]; exact h2.it
 have hn0 := h2.n0
 have hn1 := h2.n1
 have lo2 : ∀ a, a ≠ 0 → a ≠ 1 → a < 64 ∨ 4096 ≤ a → (awGive (awMark p s5)).M a = s.M a := fun a a0 a1 a2 => by rw [lo a a1 a2, h2.M, upd_other _ a0]
 refine ⟨n + 4, _, _, by omega, g, rfl, rfl, rfl, ⟨?_, ?_, lo2 2 (by decide) (by decide) (by omega), lo2 6 (by decide) (by decide) (by omega), lo2 7 (by decide) (by decide) (by omega), lo2 8 (by decide) (by decide) (by omega), ?_, rfl, ?_, ?_⟩, hi5, ?_⟩
 · rw [lo 0 (by decide) (by omega), h2.M, upd_same]
 · rw [h7, upd_same]
 · show s5.nt = s.nt
   rw [hs5]
   exact h2.nt
 · show s.n ≤ s5.n + 1 + 1
   omega
 · show s5.n + 1 + 1 ≤ s.n + 60
   omega
 · exact S.same (lo2 2 (by decide) (by decide) (by omega)) (fun a a1 _ => lo2 a (by omega) (by omega) (by omega)) hi5
theorem ch_misses {b : Int} {s : AW} {T : Tab} (S : Sw b s T) (t : Nat) (c : Clm) (h : s.M 0 = s.M 1) (A : ∀ p r, ¬ Stand1 b s.it T c.key p r) :
 ∃ n s' z', n ≤ 60 ∧ Gos chOver (chStep t c) n (s, chNew) (s', z') ∧ chOver z' = true ∧ z'.an = 4 ∧ z'.nu = 0 ∧ StF s s' (s.M 7) (s.M 6) ∧ s'.it = s.it ∧ Sw b s' T := by
 obtain ⟨n, s4, tk, f, h1, h2, h4⟩ := ch_away S t c h A
 have g := h4.trans (ch_miss (t := t) (c := c) (s := s4))
 have h7 : (awGive (awLoad 8 s4)).M = upd s4.M 1 ((s.M 1 + 1) % 18446744073709551616) := by
  show upd s4.M 1 ((s4.M 1 + 1) % 18446744073709551616) = _
  rw [show s4.M 1 = s.M 1 by rw [h2.M, upd_other _ (by decide)]]
 have lo2 : ∀ a, a ≠ 0 → a ≠ 1 → (awGive (awLoad 8 s4)).M a = s.M a := fun a a0 a1 => by rw [h7, upd_other _ a1, h2.M, upd_other _ a0]
 have hn0 := h2.n0
 have hn1 := h2.n1
 refine ⟨n + 2, _, _, by omega, g, rfl, rfl, rfl, ⟨?_, ?_, lo2 2 (by decide) (by decide), lo2 6 (by decide) (by decide), lo2 7 (by decide) (by decide), lo2 8 (by decide) (by decide), h2.nt, rfl, ?_, ?_⟩, h2.it, ?_⟩
 · rw [h7, upd_other _ (by decide), h2.M, upd_same]
 · rw [h7, upd_same]
 · show s.n ≤ s4.n + 1 + 1
   omega
 · show s4.n + 1 + 1 ≤ s.n + 60
   omega
 · exact S.same (lo2 2 (by decide) (by decide)) (fun a a1 _ => lo2 a (by omega) (by omega)) h2.it
end
section
section
variable {t : Nat} {c : Clm} {s : AW} {tk : Tkm} {fd : Fdm} {o : Otm} {p : Spt} {ref an nu ep pt ka kn k v : Int} {rr x : It}
theorem ch_tou (h : ∀ S Z, Z.ep = (awMark p s).M 8 → chFound c (itAt s.it ref) S Z = (awItem x S, { Z with ln := 11, ref := S.it.length + 1, ka := k, kn := v })) :
 Gos chOver (chStep t c) 5 (s, ⟨4, tk, fd, stVer p, o, p, ref, rr, an, nu, ep, pt, ka, kn⟩) (awGive (awMark p (awStore p.item (s.it.length + 1) (awItem x (awLoad 8 (awMark p s))))), ⟨0, tk, fd, [], o, p, s.it.length + 1, rr, k, v, (awMark p s).M 8, (awMark p s).n + 1, k, v⟩) := by
 refine ⟨rfl, rfl, ?_⟩
 show Gos chOver (chStep t c) 3 (chStep t c (awMark p s, ⟨5, tk, fd, [], o, p, ref, rr, an, nu, ep, pt, ka, kn⟩)) _
 have e : chStep t c (awMark p s, ⟨5, tk, fd, [], o, p, ref, rr, an, nu, ep, pt, ka, kn⟩) = (awItem x (awLoad 8 (awMark p s)), ⟨11, tk, fd, [], o, p, s.it.length + 1, rr, an, nu, (awMark p s).M 8, (awMark p s).n + 1, k, v⟩) := by
  show chFound c (itAt s.it ref) (awLoad 8 (awMark p s)) ⟨5, tk, fd, [], o, p, ref, rr, an, nu, (awMark p s).M 8, (awMark p s).n + 1, ka, kn⟩ = _
  rw [h _ _ rfl]
  rfl
 rw [e]
 exact ⟨rfl, rfl, rfl, rfl⟩
theorem ch_cnt (h : ∀ S Z, Z.ep = (awMark p s).M 8 → chFound c (itAt s.it ref) S Z = (S, { Z with ln := 12, r := x, ka := k, kn := v })) :
 Gos chOver (chStep t c) 6 (s, ⟨4, tk, fd, stVer p, o, p, ref, rr, an, nu, ep, pt, ka, kn⟩) (awGive (awMark p (awStore p.item (s.it.length + 1) (awItem { x with id := stId (awMark p s) } (awAdd 7 1 (awLoad 8 (awMark p s)))))), ⟨0, tk, fd, [], o, p, s.it.length + 1, x, k, v, (awMark p s).M 8, (awMark p s).n + 1, k, v⟩) := by
 refine ⟨rfl, rfl, ?_⟩
 show Gos chOver (chStep t c) 4 (chStep t c (awMark p s, ⟨5, tk, fd, [], o, p, ref, rr, an, nu, ep, pt, ka, kn⟩)) _
 have e : chStep t c (awMark p s, ⟨5, tk, fd, [], o, p, ref, rr, an, nu, ep, pt, ka, kn⟩) = (awLoad 8 (awMark p s), ⟨12, tk, fd, [], o, p, ref, x, an, nu, (awMark p s).M 8, (awMark p s).n + 1, k, v⟩) := by
  show chFound c (itAt s.it ref) (awLoad 8 (awMark p s)) ⟨5, tk, fd, [], o, p, ref, rr, an, nu, (awMark p s).M 8, (awMark p s).n + 1, ka, kn⟩ = _
  rw [h _ _ rfl]
 rw [e]
 have e2 : ∀ u : AW, chStep t c (u, ⟨12, tk, fd, [], o, p, ref, x, an, nu, (awMark p s).M 8, (awMark p s).n + 1, k, v⟩) = (awItem { x with id := stId u } (awAdd 7 1 u), ⟨11, tk, fd, [], o, p, u.it.length + 1, x, an, nu, (awMark p s).M 8, (awMark p s).n + 1, k, v⟩) := fun u => rfl
 refine ⟨rfl, ?_⟩
 rw [e2]
 have e3 : stId (awLoad 8 (awMark p s)) = stId (awMark p s) := rfl
 rw [e3]
 generalize stId (awMark p s) = i
 exact ⟨rfl, rfl, rfl, rfl⟩
end
theorem ch_end {b : Int} {s s4 s5 : AW} {T : Tab} {t : Nat} {p : Spt} {r i7 x1 : Int} {x : It} (S : Sw b s T) (h2 : St4 t s s4) (A : Stand1 b s.it T x.key p r) (h5 : s5.M = upd (upd (upd s4.M (plVersion p.b p.q) x1) 7 i7) p.item (s.it.length + 1)) (h5i : s5.it = s.it ++ [x]) (h5t : s5.nt = s4.nt) (q0 : s4.n ≤ s5.n) (q1 : s5.n ≤ s4.n + 4) :
 StF s (awGive (awMark p s5)) i7 (s.M 6) ∧ Sw b (awGive (awMark p s5)) (T.set p (fnvTag (kyH x.key), s.it.length + 1)) ∧ Stand1 b (awGive (awMark p s5)).it (T.set p (fnvTag (kyH x.key), s.it.length + 1)) x.key p (s.it.length + 1) := by
 have S4 := S.st4 h2
 have hp := A.ok
 have hv : 64 ≤ plVersion p.b p.q ∧ plVersion p.b p.q < 128 := hp.ver
 have hi := hp.item
 obtain ⟨x2, hx2⟩ : ∃ x, x = (s5.M (plVersion p.b p.q) + 1) % 18446744073709551616 := ⟨_, rfl⟩
 have h6 : (awMark p s5).M = upd s5.M (plVersion p.b p.q) x2 := by rw [hx2]; rfl
 have h61 : (awMark p s5).M 1 = s.M 1 := by
  rw [h6, upd_other _ (by omega), h5, upd_other _ (by omega), upd_other _ (by omega), upd_other _ (by omega), h2.M, upd_other _ (by decide)]
 have h7 : (awGive (awMark p s5)).M = upd (upd s5.M (plVersion p.b p.q) x2) 1 ((s.M 1 + 1) % 18446744073709551616) := by
  show upd (awMark p s5).M 1 (((awMark p s5).M 1 + 1) % 18446744073709551616) = _
  rw [h61, h6]
 have lo : ∀ a, a ≠ 1 → a ≠ 7 → a < 64 → (awGive (awMark p s5)).M a = s4.M a := fun a a1 a7 a2 => by
  rw [h7, upd_other _ a1, upd_other _ (by omega), h5, upd_other _ (by omega), upd_other _ a7, upd_other _ (by omega)]
 have hx := (A.at S).2
 have hrep : Rep (awGive (awMark p s5)).M (T.set p (fnvTag (kyH x.key), s.it.length + 1)) := by
  have := S4.rep.item (M' := (awGive (awMark p s5)).M) hp (rf := s.it.length + 1) (by rw [h7, upd_other _ (by omega), upd_other _ (by omega), h5, upd_same]) (fun a a1 _ a3 => by
   rw [h7, upd_other _ (by omega), upd_other _ (by omega), h5, upd_other _ a3, upd_other _ (by omega), upd_other _ (by omega)])
  rw [(A.at S).1] at this
  exact this
 have e2 : (awGive (awMark p s5)).M 2 = s.M 2 := by rw [lo 2 (by decide) (by decide) (by decide), h2.M, upd_other _ (by decide)]
 have hsw := Sw.put S (x := x) (s' := awGive (awMark p s5)) hp A.tb hx (fun q u hq => S.one _ _ _ _ _ hq A) e2 hrep h5i
 have hn0 := h2.n0
 have hn1 := h2.n1
 refine ⟨⟨?_, ?_, e2, ?_, ?_, ?_, ?_, rfl, ?_, ?_⟩, hsw.1, hsw.2.1⟩
 · rw [lo 0 (by decide) (by decide) (by decide), h2.M, upd_same]
 · rw [h7, upd_same]
 · rw [lo 6 (by decide) (by decide) (by decide), h2.M, upd_other _ (by decide)]
 · rw [h7, upd_other _ (by decide), upd_other _ (by omega), h5, upd_other _ (by omega), upd_same]
 · rw [lo 8 (by decide) (by decide) (by decide), h2.M, upd_other _ (by decide)]
 · show s5.nt = s.nt
   rw [h5t]
   exact h2.nt
 · show s.n ≤ s5.n + 1 + 1
   omega
 · show s5.n + 1 + 1 ≤ s.n + 60
   omega
theorem ch_touches {b : Int} {s : AW} {T : Tab} (S : Sw b s T) (t : Nat) (c : Clm) (h : s.M 0 = s.M 1) {p : Spt} {r k v : Int} {x : It} (hx : x.key = c.key) (A : Stand1 b s.it T c.key p r) (hd : ∀ S Z, Z.ep = s.M 8 → chFound c (itAt s.it r) S Z = (awItem x S, { Z with ln := 11, ref := S.it.length + 1, ka := k, kn := v })) :
 ∃ n s' z', n ≤ 60 ∧ Gos chOver (chStep t c) n (s, chNew) (s', z') ∧ chOver z' = true ∧ z'.an = k ∧ z'.nu = v ∧ StF s s' (s.M 7) (s.M 6) ∧ s'.it = s.it ++ [x] ∧
  Sw b s' (T.set p (fnvTag (kyH c.key), s.it.length + 1)) ∧ Stand1 b s'.it (T.set p (fnvTag (kyH c.key), s.it.length + 1)) c.key p (s.it.length + 1) := by
 obtain ⟨n, s4, tk, f, h1, h2, h4⟩ := ch_there S t c h A
 have hv : 64 ≤ plVersion p.b p.q ∧ plVersion p.b p.q < 128 := A.ok.ver
 obtain ⟨x1, hx1⟩ : ∃ x, x = (s4.M (plVersion p.b p.q) + 1) % 18446744073709551616 := ⟨_, rfl⟩
 have hm : (awMark p s4).M = upd s4.M (plVersion p.b p.q) x1 := by rw [hx1]; rfl
 have m8 : (awMark p s4).M 8 = s.M 8 := by rw [hm, upd_other _ (by omega), h2.M, upd_other _ (by decide)]
 have m7 : (awMark p s4).M 7 = s.M 7 := by rw [hm, upd_other _ (by omega), h2.M, upd_other _ (by decide)]
 have g := h4.trans (ch_tou (t := t) (c := c) (s := s4) (tk := tk) (fd := f) (o := chNew.o) (p := p) (ref := r) (rr := chNew.r) (an := 0) (nu := 0) (ep := 0) (pt := 0) (ka := 0) (kn := 0) (k := k) (v := v) (x := x) (fun S Z e => by rw [h2.it]; exact hd S Z (e.trans m8)))
 rw [← hx] at A ⊢
 obtain ⟨q1, q2, q3⟩ := ch_end (s5 := awStore p.item (s4.it.length + 1) (awItem x (awLoad 8 (awMark p s4)))) (x1 := x1) (i7 := s.M 7) S h2 A (by
  show upd (awMark p s4).M p.item ((s4.it.length : Int) + 1) = _
  rw [h2.it, ← hm]
  congr 1
  funext a
  by_cases e : a = 7
  · rw [e, upd_same, m7]
  · rw [upd_other _ e]) (by show s4.it ++ [x] = _; rw [h2.it]) rfl (by show s4.n ≤ s4.n + 1 + 1 + 1; omega) (by show s4.n + 1 + 1 + 1 ≤ _; omega)
 exact ⟨n + 5, _, _, by omega, g, rfl, rfl, rfl, q1, by show s4.it ++ [x] = _; rw [h2.it], q2, q3⟩
theorem ch_counts {b : Int} {s : AW} {T : Tab} (S : Sw b s T) (t : Nat) (c : Clm) (h : s.M 0 = s.M 1) {p : Spt} {r k v : Int} {x : It} (hx : x.key = c.key) (A : Stand1 b s.it T c.key p r) (hd : ∀ S Z, Z.ep = s.M 8 → chFound c (itAt s.it r) S Z = (S, { Z with ln := 12, r := x, ka := k, kn := v })) :
 ∃ n s' z', n ≤ 60 ∧ Gos chOver (chStep t c) n (s, chNew) (s', z') ∧ chOver z' = true ∧ z'.an = k ∧ z'.nu = v ∧ StF s s' ((s.M 7 + 1) % 18446744073709551616) (s.M 6) ∧ s'.it = s.it ++ [{ x with id := (s.M 7 + 1) % 18446744073709551616 }] ∧
  Sw b s' (T.set p (fnvTag (kyH c.key), s.it.length + 1)) ∧ Stand1 b s'.it (T.set p (fnvTag (kyH c.key), s.it.length + 1)) c.key p (s.it.length + 1) := by
 obtain ⟨n, s4, tk, f, h1, h2, h4⟩ := ch_there S t c h A
 have hv : 64 ≤ plVersion p.b p.q ∧ plVersion p.b p.q < 128 := A.ok.ver
 obtain ⟨x1, hx1⟩ : ∃ x, x = (s4.M (plVersion p.b p.q) + 1) % 18446744073709551616 := ⟨_, rfl⟩
 have hm : (awMark p s4).M = upd s4.M (plVersion p.b p.q) x1 := by rw [hx1]; rfl
 have m8 : (awMark p s4).M 8 = s.M 8 := by rw [hm, upd_other _ (by omega), h2.M, upd_other _ (by decide)]
 have m7 : (awMark p s4).M 7 = s.M 7 := by rw [hm, upd_other _ (by omega), h2.M, upd_other _ (by decide)]
 have hid : stId (awMark p s4) = (s.M 7 + 1) % 18446744073709551616 := by unfold stId; rw [m7]
 have g := h4.trans (ch_cnt (t := t) (c := c) (s := s4) (tk := tk) (fd := f) (o := chNew.o) (p := p) (ref := r) (rr := chNew.r) (an := 0) (nu := 0) (ep := 0) (pt := 0) (ka := 0) (kn := 0) (k := k) (v := v) (x := x) (fun S Z e => by rw [h2.it]; exact hd S Z (e.trans m8)))
 rw [hid] at g
 obtain ⟨i7, hi7⟩ : ∃ i, i = (s.M 7 + 1) % 18446744073709551616 := ⟨_, rfl⟩
 rw [← hi7] at g ⊢
 obtain ⟨y, hy⟩ : ∃ y : It, y = { x with id := i7 } := ⟨_, rfl⟩
 have hyk : y.key = c.key := by rw [hy]; exact hx
 rw [← hy] at g ⊢
 rw [← hyk] at A ⊢
 obtain ⟨q1, q2, q3⟩ := ch_end (s5 := awStore p.item (s4.it.length + 1) (awItem y (awAdd 7 1 (awLoad 8 (awMark p s4))))) (x1 := x1) (i7 := i7) S h2 A (by
  show upd (upd (awMark p s4).M 7 (((awMark p s4).M 7 + 1) % 18446744073709551616)) p.item ((s4.it.length : Int) + 1) = _
  rw [m7, h2.it, hm, hi7]) (by show s4.it ++ [y] = _; rw [h2.it]) rfl (by show s4.n ≤ s4.n + 1 + 1 + 1 + 1; omega) (by show s4.n + 1 + 1 + 1 + 1 ≤ _; omega)
 exact ⟨n + 6, _, _, by omega, g, rfl, rfl, rfl, q1, by show s4.it ++ [y] = _; rw [h2.it], q2, q3⟩
end
section
theorem Sw.out {b : Int} {s s' : AW} {T : Tab} (S : Sw b s T) {k : ByteArray} {p : Spt} {r : Int} (A : Stand1 b s.it T k p r)
 (e2 : s'.M 2 = s.M 2) (hr : Rep s'.M (T.set p (0, 0))) (hi : s'.it = s.it) :
 Sw b s' (T.set p (0, 0)) ∧ (∀ q u, ¬ Stand1 b s'.it (T.set p (0, 0)) k q u) ∧ (∀ l q u, l ≠ k → Stand1 b s.it T l q u → Stand1 b s'.it (T.set p (0, 0)) l q u) ∧
  (∀ l q u, Stand1 b s'.it (T.set p (0, 0)) l q u → Stand1 b s.it T l q u) := by
 have hback : ∀ l q u, Stand1 b s'.it (T.set p (0, 0)) l q u → q ≠ p ∧ Stand1 b s.it T l q u := fun l q u h => by
  have hq : q ≠ p := fun e => by
   have h1 := h.rf
   rw [e, Tab.set_same] at h1
   have := fdHit_pos h.hit
   have h1 : (0 : Int) = u := h1
   omega
  have h1 := h.rf
  rw [Tab.set_ne _ fun e => hq (Spt.is_eq e)] at h1
  exact ⟨hq, h.ok, h.tb, h1, by rw [← hi]; exact h.hit⟩
 have hold : ∀ l q u, Stand1 b s.it T l q u → q ≠ p → Stand1 b s'.it (T.set p (0, 0)) l q u := fun l q u h hq =>
  ⟨h.ok, h.tb, by rw [Tab.set_ne _ fun e => hq (Spt.is_eq e)]; exact h.rf, by rw [hi]; exact h.hit⟩
 refine ⟨⟨S.b0, S.b1, e2.trans S.wd, hr, fun q hq hqb => ?_, fun l q1 q2 r1 r2 h1 h2 => S.one l q1 q2 r1 r2 (hback l q1 r1 h1).2 (hback l q2 r2 h2).2⟩, fun q u h => ?_, fun l q u hl h => hold l q u h fun e => ?_, fun l q u h => (hback l q u h).2⟩
 · by_cases c : q = p
   · subst c
     exact .inl (Tab.set_same _ _ _)
   · rw [Tab.set_ne _ fun e => c (Spt.is_eq e)]
     rcases S.sl q hq hqb with e | ⟨m, u, g, g1, g2⟩
     · exact .inl e
     · exact .inr ⟨m, u, hold m q u g c, g1, g2⟩
 · have h1 := hback k q u h
   exact h1.1 (S.one k q p u r h1.2 A)
 · subst e
   have h1 := h.rf
   rw [A.rf] at h1
   subst h1
   exact hl (fdHit_key h.hit A.hit)
def awDel (p : Spt) (s : AW) : AW := awAdd 6 18446744073709551615 (awStore p.item 0 (awStore p.tags (twWith (s.M p.tags) p.s 0) (awLoad p.tags s)))
section
variable {t : Nat} {c : Clm} {s : AW} {tk : Tkm} {fd : Fdm} {p : Spt} {ref an nu ep pt ka kn : Int} {rr : It} {ml : List Int} {o : Otm}
theorem ch_outs : Gos chOver (chStep t c) 4 (s, ⟨6, tk, fd, ml, ⟨0, 0⟩, p, ref, rr, an, nu, ep, pt, ka, kn⟩) (awDel p s, ⟨8, tk, fd, stVer p, ⟨3, s.M p.tags⟩, p, ref, rr, 6, nu, ep, pt, ka, kn⟩) := by
 have e1 : chStep t c (s, ⟨6, tk, fd, ml, ⟨0, 0⟩, p, ref, rr, an, nu, ep, pt, ka, kn⟩) = (awLoad p.tags s, ⟨6, tk, fd, ml, ⟨1, s.M p.tags⟩, p, ref, rr, an, nu, ep, pt, ka, kn⟩) := rfl
 have e2 : ∀ S v, chStep t c (S, ⟨6, tk, fd, ml, ⟨1, v⟩, p, ref, rr, an, nu, ep, pt, ka, kn⟩) = (awStore p.tags (twWith v p.s 0) S, ⟨6, tk, fd, ml, ⟨2, v⟩, p, ref, rr, an, nu, ep, pt, ka, kn⟩) := fun S v => rfl
 have e3 : ∀ S v, chStep t c (S, ⟨6, tk, fd, ml, ⟨2, v⟩, p, ref, rr, an, nu, ep, pt, ka, kn⟩) = (awStore p.item 0 S, ⟨7, tk, fd, ml, ⟨3, v⟩, p, ref, rr, an, nu, ep, pt, ka, kn⟩) := fun S v => rfl
 have e4 : ∀ S v, chStep t c (S, ⟨7, tk, fd, ml, ⟨3, v⟩, p, ref, rr, an, nu, ep, pt, ka, kn⟩) = (awAdd 6 18446744073709551615 S, ⟨8, tk, fd, stVer p, ⟨3, v⟩, p, ref, rr, 6, nu, ep, pt, ka, kn⟩) := fun S v => rfl
 refine ⟨rfl, ?_⟩
 rw [e1]
 refine ⟨rfl, ?_⟩
 rw [e2]
 refine ⟨rfl, ?_⟩
 rw [e3]
 refine ⟨rfl, ?_⟩
 rw [e4]
 exact rfl
theorem ch_del (h : ∀ S Z, Z.ep = (awMark p s).M 8 → chFound c (itAt s.it ref) S Z = (S, { Z with ln := 6, o := ⟨0, 0⟩ })) :
 Gos chOver (chStep t c) 8 (s, ⟨4, tk, fd, stVer p, o, p, ref, rr, an, nu, ep, pt, ka, kn⟩) (awGive (awMark p (awDel p (awLoad 8 (awMark p s)))), ⟨0, tk, fd, [], ⟨3, (awMark p s).M p.tags⟩, p, ref, rr, 6, nu, (awMark p s).M 8, (awMark p s).n + 1, ka, kn⟩) := by
 have e : chStep t c (awMark p s, ⟨5, tk, fd, [], o, p, ref, rr, an, nu, ep, pt, ka, kn⟩) = (awLoad 8 (awMark p s), ⟨6, tk, fd, [], ⟨0, 0⟩, p, ref, rr, an, nu, (awMark p s).M 8, (awMark p s).n + 1, ka, kn⟩) := by
  show chFound c (itAt s.it ref) (awLoad 8 (awMark p s)) ⟨5, tk, fd, [], o, p, ref, rr, an, nu, (awMark p s).M 8, (awMark p s).n + 1, ka, kn⟩ = _
  rw [h _ _ rfl]
 have g1 : Gos chOver (chStep t c) 2 (s, ⟨4, tk, fd, stVer p, o, p, ref, rr, an, nu, ep, pt, ka, kn⟩) (awLoad 8 (awMark p s), ⟨6, tk, fd, [], ⟨0, 0⟩, p, ref, rr, an, nu, (awMark p s).M 8, (awMark p s).n + 1, ka, kn⟩) := by
  refine ⟨rfl, rfl, ?_⟩
  show _ = chStep t c (awMark p s, ⟨5, tk, fd, [], o, p, ref, rr, an, nu, ep, pt, ka, kn⟩)
  rw [e]
 have g2 := g1.trans ch_outs
 have g3 : ∀ S ep pt v, Gos chOver (chStep t c) 2 (S, ⟨8, tk, fd, stVer p, ⟨3, v⟩, p, ref, rr, 6, nu, ep, pt, ka, kn⟩) (awGive (awMark p S), ⟨0, tk, fd, [], ⟨3, v⟩, p, ref, rr, 6, nu, ep, pt, ka, kn⟩) := fun S ep pt v => ⟨rfl, rfl, rfl⟩
 exact g2.trans (g3 _ _ _ _)
end
theorem ch_deletes {b : Int} {s : AW} {T : Tab} (S : Sw b s T) (t : Nat) (c : Clm) (h : s.M 0 = s.M 1) {p : Spt} {r : Int} (A : Stand1 b s.it T c.key p r) (hd : ∀ S Z, Z.ep = s.M 8 → chFound c (itAt s.it r) S Z = (S, { Z with ln := 6, o := ⟨0, 0⟩ })) :
 ∃ n s' z', n ≤ 60 ∧ Gos chOver (chStep t c) n (s, chNew) (s', z') ∧ chOver z' = true ∧ z'.an = 6 ∧ z'.nu = 0 ∧ StF s s' (s.M 7) ((s.M 6 + 18446744073709551615) % 18446744073709551616) ∧ s'.it = s.it ∧
  Sw b s' (T.set p (0, 0)) ∧ (∀ q u, ¬ Stand1 b s'.it (T.set p (0, 0)) c.key q u) ∧ (∀ l q u, l ≠ c.key → Stand1 b s.it T l q u → Stand1 b s'.it (T.set p (0, 0)) l q u) ∧
  (∀ l q u, Stand1 b s'.it (T.set p (0, 0)) l q u → Stand1 b s.it T l q u) := by
 obtain ⟨n, s4, tk, f, h1, h2, h4⟩ := ch_there S t c h A
 have S4 := S.st4 h2
 have hp := A.ok
 have hv : 64 ≤ plVersion p.b p.q ∧ plVersion p.b p.q < 128 := hp.ver
 have hi := hp.item
 have htg := hp.tags
 have hit : p.item ≠ p.tags := by have := hp.s0; omega
 obtain ⟨x1, hx1⟩ : ∃ x, x = (s4.M (plVersion p.b p.q) + 1) % 18446744073709551616 := ⟨_, rfl⟩
 have hm : (awMark p s4).M = upd s4.M (plVersion p.b p.q) x1 := by rw [hx1]; rfl
 have m8 : (awMark p s4).M 8 = s.M 8 := by rw [hm, upd_other _ (by omega), h2.M, upd_other _ (by decide)]
 have g := h4.trans (ch_del (t := t) (c := c) (s := s4) (tk := tk) (fd := f) (o := chNew.o) (p := p) (ref := r) (rr := chNew.r) (an := 0) (nu := 0) (ep := 0) (pt := 0) (ka := 0) (kn := 0) (fun S Z e => by rw [h2.it]; exact hd S Z (e.trans m8)))
 obtain ⟨s5, hs5⟩ : ∃ x, x = awDel p (awLoad 8 (awMark p s4)) := ⟨_, rfl⟩
 rw [← hs5] at g
 obtain ⟨tw, htw⟩ : ∃ x, x = twWith (s4.M p.tags) p.s 0 := ⟨_, rfl⟩
 have h5 : s5.M = upd (upd (upd (upd s4.M (plVersion p.b p.q) x1) p.tags tw) p.item 0) 6 ((s.M 6 + 18446744073709551615) % 18446744073709551616) := by
  have e1 : s5.M = upd (upd (upd (awMark p s4).M p.tags (twWith ((awMark p s4).M p.tags) p.s 0)) p.item 0) 6 ((upd (upd (awMark p s4).M p.tags (twWith ((awMark p s4).M p.tags) p.s 0)) p.item 0 6 + 18446744073709551615) % 18446744073709551616) := by rw [hs5]; rfl
  have e6 : ∀ x y : Int, upd (upd (awMark p s4).M p.tags x) p.item y 6 = s.M 6 := fun x y => by
   rw [upd_other _ (by omega), upd_other _ (by omega), hm, upd_other _ (by omega), h2.M, upd_other _ (by decide)]
  have et : (awMark p s4).M p.tags = s4.M p.tags := by rw [hm, upd_other _ (by omega)]
  rw [e1, e6, et, hm, htw]
 have h5i : s5.it = s.it := by rw [hs5]; exact h2.it
 have h5n : s5.n = s4.n + 6 := by
  rw [hs5]
  show s4.n + 1 + 1 + 1 + 1 + 1 + 1 = s4.n + 6
  omega
 obtain ⟨x2, hx2⟩ : ∃ x, x = (s5.M (plVersion p.b p.q) + 1) % 18446744073709551616 := ⟨_, rfl⟩
 have h6 : (awMark p s5).M = upd s5.M (plVersion p.b p.q) x2 := by rw [hx2]; rfl
 have h51 : ∀ a, a ≠ 6 → a < 64 → s5.M a = s4.M a := fun a a6 a2 => by
  rw [h5, upd_other _ a6, upd_other _ (by omega), upd_other _ (by omega), upd_other _ (by omega)]
 have h61 : (awMark p s5).M 1 = s.M 1 := by
  rw [h6, upd_other _ (by omega), h51 1 (by decide) (by decide), h2.M, upd_other _ (by decide)]
 have h7 : (awGive (awMark p s5)).M = upd (upd s5.M (plVersion p.b p.q) x2) 1 ((s.M 1 + 1) % 18446744073709551616) := by
  show upd (awMark p s5).M 1 (((awMark p s5).M 1 + 1) % 18446744073709551616) = _
  rw [h61, h6]
 have lo : ∀ a, a ≠ 1 → a ≠ 6 → a < 64 → (awGive (awMark p s5)).M a = s4.M a := fun a a1 a6 a2 => by
  rw [h7, upd_other _ a1, upd_other _ (by omega), h51 a a6 a2]
 have hrep : Rep (awGive (awMark p s5)).M (T.set p (0, 0)) := by
  refine S4.rep.slot (M' := (awGive (awMark p s5)).M) hp (Int.le_refl 0) (by decide) ?_ ?_ (fun a a1 _ a3 a4 => ?_)
  · rw [h7, upd_other _ (by omega), upd_other _ (by omega), h5, upd_other _ (by omega), upd_other _ (fun e => hit e.symm), upd_same, htw]
  · rw [h7, upd_other _ (by omega), upd_other _ (by omega), h5, upd_other _ (by omega), upd_same]
  · rw [h7, upd_other _ (by omega), upd_other _ (by omega), h5, upd_other _ (by omega), upd_other _ a4, upd_other _ a3, upd_other _ (by omega)]
 have e2 : (awGive (awMark p s5)).M 2 = s.M 2 := by rw [lo 2 (by decide) (by decide) (by decide), h2.M, upd_other _ (by decide)]
 have hsw := Sw.out S (s' := awGive (awMark p s5)) A e2 hrep h5i
 have hn0 := h2.n0
 have hn1 := h2.n1
 refine ⟨n + 8, _, _, by omega, g, rfl, rfl, rfl, ⟨?_, ?_, e2, ?_, ?_, ?_, ?_, rfl, ?_, ?_⟩, h5i, hsw.1, hsw.2.1, hsw.2.2.1, hsw.2.2.2⟩
 · rw [lo 0 (by decide) (by decide) (by decide), h2.M, upd_same]
 · rw [h7, upd_same]
 · rw [h7, upd_other _ (by decide), upd_other _ (by omega), h5, upd_same]
 · rw [lo 7 (by decide) (by decide) (by decide), h2.M, upd_other _ (by decide)]
 · rw [lo 8 (by decide) (by decide) (by decide), h2.M, upd_other _ (by decide)]
 · show s5.nt = s.nt
   rw [hs5]
   exact h2.nt
 · show s.n ≤ s5.n + 1 + 1
   omega
 · show s5.n + 1 + 1 ≤ s.n + 60
   omega
end
section
structure Giv where
 an : Int
 nu : Int
 it : It
 dr : Nat
def chGiv (c : Clm) (was : It) (ep id : Int) : Giv :=
 if epAlive was.dies was.gen ep = false then ⟨4, 0, was, 0⟩
 else if c.verb = 7 then ⟨6, 0, it0, 0⟩
 else if c.verb = 8 then ⟨7, 0, { was with dies := epDies ep c.exp }, 0⟩
 else match nuParse was.val with
  | none => ⟨9, 0, was, 0⟩
  | some n => ⟨8, nuBy c.verb n c.by_, { was with val := nuText (nuBy c.verb n c.by_), id := id }, 1⟩
structure KeS (b : Int) (k : ByteArray) (s : AW) (p : Spt) (T : Tab) (n : Nat) (x : It) (i q : Nat) : Prop where
 sw : Sw b s T
 std : Stand1 b s.it T k p n
 len : s.it.length = n
 last : itAt s.it n = x
 ids : s.M 7 = i
 cnt : s.M 6 = 1
 tkt : s.M 0 = s.M 1
 nt : s.nt = []
 n0 : 0 ≤ s.n
 n1 : s.n ≤ 60 * q
theorem ke_of_ag {b : Int} {k : ByteArray} {s : AW} {p : Spt} {T : Tab} {n j : Nat} {x : It} (H : AgS b k s p T n x j) : KeS b k s p T n x n j :=
 ⟨H.sw, H.std, H.len, H.last, H.ids, H.cnt, H.nxt.trans H.srv.symm, H.nt, H.n0, H.n1⟩
theorem fdHit_ky {it : List It} {r : Int} {k : ByteArray} (h : fdHit it r k = true) : (itAt it r).key = k := by
 have h0 := fdHit_pos h
 unfold fdHit at h
 simp only [Bool.and_eq_true, decide_eq_true_eq] at h
 cases e : it[(r - 1).toNat]? with
 | none => rw [e] at h; exact absurd h.2 Bool.false_ne_true
 | some y =>
   obtain ⟨hl, -⟩ := List.getElem?_eq_some_iff.1 e
   rw [e] at h
   simp only [decide_eq_true_eq] at h
   unfold itAt
   rw [if_pos ⟨h0, by omega⟩, e]
   exact h.2
section
variable {b : Int} {k : ByteArray} {s : AW} {p : Spt} {T : Tab} {n i q : Nat} {x : It}
theorem KeS.key (H : KeS b k s p T n x i q) : x.key = k := by rw [← H.last]; exact fdHit_ky H.std.hit
theorem KeS.tick (H : KeS b k s p T n x i q) : KeS b k (awTick s) p T n x i (q + 1) := by
 have hM : ∀ a, a ≠ 8 → (awTick s).M a = s.M a := fun a h => upd_other _ h
 have h0 := H.n0
 have h1 := H.n1
 exact ⟨H.sw.same (hM 2 (by decide)) (fun a a1 _ => hM a (by omega)) rfl, H.std, H.len, H.last, (hM 7 (by decide)).trans H.ids, (hM 6 (by decide)).trans H.cnt, (hM 0 (by decide)).trans (H.tkt.trans (hM 1 (by decide)).symm), H.nt, by show 0 ≤ s.n + 1; omega, by show s.n + 1 ≤ 60 * ((q + 1 : Nat) : Int); push_cast; omega⟩
theorem KeS.told {s' : AW} (H : KeS b k s p T n x i q) (F : StF s s' (s.M 7) (s.M 6)) (hi : s'.it = s.it) (S : Sw b s' T) : KeS b k s' p T n x i (q + 1) := by
 have a0 := F.n0
 have a1 := F.n1
 have a2 := H.n0
 have a3 := H.n1
 exact ⟨S, by rw [hi]; exact H.std, by rw [hi]; exact H.len, by rw [hi]; exact H.last, F.m7.trans H.ids, F.m6.trans H.cnt, by rw [F.m0, F.m1, H.tkt], F.nt.trans H.nt, by omega, by push_cast; omega⟩
theorem KeS.more {s' : AW} {T' : Tab} {y : It} {j : Nat} (H : KeS b k s p T n x i q) (F : StF s s' j (s.M 6)) (hi : s'.it = s.it ++ [y]) (S : Sw b s' T') (A : Stand1 b s'.it T' k p (s.it.length + 1)) : KeS b k s' p T' (n + 1) y j (q + 1) := by
 have a0 := F.n0
 have a1 := F.n1
 have a2 := H.n0
 have a3 := H.n1
 have hl := H.len
 rw [hl] at A
 refine ⟨S, A, ?_, ?_, F.m7, F.m6.trans H.cnt, by rw [F.m0, F.m1, H.tkt], F.nt.trans H.nt, by omega, by push_cast; omega⟩
 · rw [hi, List.length_append, hl]; rfl
 · have := itAt_new s.it y
   rw [hl] at this
   rw [hi]
   exact this
theorem ke_step (H : KeS b k s p T n x i q) (t : Nat) (c : Clm) (hk : c.key = k) (hv : c.verb ≠ 7) (hi : i < 1000000) :
 ∃ m s' z' T' n', runN chOver (chStep t c) 200000 (s, chNew) = (m, s', z') ∧ chOver z' = true ∧ z'.an = (chGiv c x (s.M 8) (i + 1)).an ∧ z'.nu = (chGiv c x (s.M 8) (i + 1)).nu ∧
  KeS b k s' p T' n' (chGiv c x (s.M 8) (i + 1)).it (i + (chGiv c x (s.M 8) (i + 1)).dr) (q + 1) ∧ n ≤ n' ∧ n' ≤ n + 1 ∧ s'.M 8 = s.M 8 := by
 subst hk
 have hxk := H.key
 have hm : (s.M 7 + 1) % 18446744073709551616 = ((i + 1 : Nat) : Int) := by rw [H.ids]; push_cast; omega
 have hx : itAt s.it n = x := H.last
 cases hal : epAlive x.dies x.gen (s.M 8) with
 | false =>
   have hg : chGiv c x (s.M 8) (i + 1) = ⟨4, 0, x, 0⟩ := by unfold chGiv; rw [if_pos hal]
   rw [hg]
   obtain ⟨m, s', z', h1, h2, h3, h4, h5, h6, h7, h8⟩ := ch_tells H.sw t c H.tkt (k := 4) H.std (fun S Z e => by unfold chFound; rw [hx, e, if_pos hal])
   exact ⟨m, s', z', T, n, h2.fin (by omega) h3, h3, h4, h5, H.told h6 h7 h8, Nat.le_refl _, Nat.le_succ _, h6.m8⟩
 | true =>
   have hn : ¬ epAlive x.dies x.gen (s.M 8) = false := by rw [hal]; decide
   by_cases h8 : c.verb = 8
   · have hg : chGiv c x (s.M 8) (i + 1) = ⟨7, 0, { x with dies := epDies (s.M 8) c.exp }, 0⟩ := by unfold chGiv; rw [if_neg hn, if_neg hv, if_pos h8]
     rw [hg]
     obtain ⟨m, s', z', h1, h2, h3, h4, h5, h6, h7, h8, h9⟩ := ch_touches H.sw t c H.tkt (k := 7) (v := 0) (x := { x with dies := epDies (s.M 8) c.exp }) hxk H.std (fun S Z e => by unfold chFound; rw [hx, e, if_neg hn, if_neg hv, if_pos h8])
     rw [H.ids] at h6
     exact ⟨m, s', z', _, n + 1, h2.fin (by omega) h3, h3, h4, h5, H.more h6 h7 h8 h9, Nat.le_succ _, Nat.le_refl _, h6.m8⟩
   · cases hp : nuParse x.val with
     | none =>
       have hg : chGiv c x (s.M 8) (i + 1) = ⟨9, 0, x, 0⟩ := by unfold chGiv; rw [if_neg hn, if_neg hv, if_neg h8, hp]
       rw [hg]
       obtain ⟨m, s', z', h1, h2, h3, h4, h5, h6, h7, h8⟩ := ch_tells H.sw t c H.tkt (k := 9) H.std (fun S Z e => by unfold chFound; rw [hx, e, if_neg hn, if_neg hv, if_neg h8, hp])
       exact ⟨m, s', z', T, n, h2.fin (by omega) h3, h3, h4, h5, H.told h6 h7 h8, Nat.le_refl _, Nat.le_succ _, h6.m8⟩
     | some u =>
       have hg : chGiv c x (s.M 8) (i + 1) = ⟨8, nuBy c.verb u c.by_, { x with val := nuText (nuBy c.verb u c.by_), id := (i : Int) + 1 }, 1⟩ := by unfold chGiv; rw [if_neg hn, if_neg hv, if_neg h8, hp]
       rw [hg]
       obtain ⟨m, s', z', h1, h2, h3, h4, h5, h6, h7, h8, h9⟩ := ch_counts H.sw t c H.tkt (k := 8) (v := nuBy c.verb u c.by_) (x := { x with val := nuText (nuBy c.verb u c.by_) }) hxk H.std (fun S Z e => by unfold chFound; rw [hx, e, if_neg hn, if_neg hv, if_neg h8, hp])
       rw [hm] at h6 h7
       have h7 : s'.it = s.it ++ [{ x with val := nuText (nuBy c.verb u c.by_), id := (i : Int) + 1 }] := by rw [h7]; push_cast; rfl
       exact ⟨m, s', z', _, n + 1, h2.fin (by omega) h3, h3, h4, h5, H.more h6 h7 h8 h9, Nat.le_succ _, Nat.le_refl _, h6.m8⟩
theorem ke_del (H : KeS b k s p T n x i q) (t : Nat) (c : Clm) (hk : c.key = k) (hv : c.verb = 7) (hal : epAlive x.dies x.gen (s.M 8) = true) :
 ∃ m s' z' T', runN chOver (chStep t c) 200000 (s, chNew) = (m, s', z') ∧ chOver z' = true ∧ z'.an = 6 ∧ z'.nu = 0 ∧ Sw b s' T' ∧ (∀ q u, ¬ Stand1 b s'.it T' k q u) ∧ s'.M 6 = 0 ∧ s'.M 0 = s'.M 1 ∧ s'.nt = [] ∧ s'.it = s.it ∧ 0 ≤ s'.n ∧ s'.n ≤ 60 * (q + 1) := by
 subst hk
 have hn : ¬ epAlive x.dies x.gen (s.M 8) = false := by rw [hal]; decide
 have hx : itAt s.it n = x := H.last
 obtain ⟨m, s', z', h1, h2, h3, h4, h5, h6, h7, h8, h9, -, -⟩ := ch_deletes H.sw t c H.tkt H.std (fun S Z e => by unfold chFound; rw [hx, e, if_neg hn, if_pos hv])
 have a0 := h6.n0
 have a1 := h6.n1
 have a2 := H.n0
 have a3 := H.n1
 refine ⟨m, s', z', _, h2.fin (by omega) h3, h3, h4, h5, h8, h9, ?_, by rw [h6.m0, h6.m1, H.tkt], h6.nt.trans H.nt, h7, by omega, by omega⟩
 rw [h6.m6, H.cnt]
 decide
theorem ke_dead (H : KeS b k s p T n x i q) (t : Nat) (c : Clm) (hk : c.key = k) (hal : epAlive x.dies x.gen (s.M 8) = false) :
 ∃ m s' z', runN chOver (chStep t c) 200000 (s, chNew) = (m, s', z') ∧ chOver z' = true ∧ z'.an = 4 ∧ z'.nu = 0 ∧ KeS b k s' p T n x i (q + 1) ∧ s'.M 8 = s.M 8 := by
 subst hk
 have hx : itAt s.it n = x := H.last
 obtain ⟨m, s', z', h1, h2, h3, h4, h5, h6, h7, h8⟩ := ch_tells H.sw t c H.tkt (k := 4) H.std (fun S Z e => by unfold chFound; rw [hx, e, if_pos hal])
 exact ⟨m, s', z', h2.fin (by omega) h3, h3, h4, h5, H.told h6 h7 h8, h6.m8⟩
end
end
end Go.Proofs.YtifkfhnbkjkakaaGreatDoor
