/- Layer 26, plain: a Change in a world of one table: the way to the key. Layer 25, plain: a world of one table behind a record that came into a slot. Layer 25, plain: a Store that replaces what is there. Layer 25, plain: a Store that tells, and one that brings something new. Layer 25, plain: a Store that brings something new, into a slot that the first look finds free. Layer 25, plain: Stores of one key, one behind the other, in a new world. -/
import Derived.Test.YtifkfhnbkjkakaaGreatDoorZrChP
import Derived.Test.YtifkfhnbkjkakaaGreatDoorZrSF
namespace Go.Proofs.YtifkfhnbkjkakaaGreatDoor
set_option linter.unusedSimpArgs false
set_option linter.unusedVariables false
section
def chFd (z : Chm) (f : Fdm) : Chm := if 0 < f.ref then { z with fd := f, ln := 4, p := f.p, ref := f.ref, ml := stVer f.p } else { z with fd := f, ln := 10 }
theorem chStep_3 (t : Nat) (c : Clm) (s : AW) (z : Chm) (h : z.ln = 3) : chStep t c (s, z) = ((fdStep c.key (s, z.fd)).1, if (fdStep c.key (s, z.fd)).2.left = [] then chFd z (fdStep c.key (s, z.fd)).2 else { z with fd := (fdStep c.key (s, z.fd)).2 }) := by
 obtain ⟨ln, tk, fd, ml, o, p, ref, r, an, nu, ep, pt, ka, kn⟩ := z
 cases h
 unfold chStep
 dsimp only
 cases e : (fdStep c.key (s, fd)).2.left with
 | nil => rw [if_pos rfl]; rfl
 | cons a l => rw [if_neg (List.cons_ne_nil a l)]; rfl
theorem ch_lift (t : Nat) (c : Clm) : ∀ (n : Nat) (s s' : AW) (z : Chm) (f' : Fdm), z.ln = 3 → n ≠ 0 → Gos fdOver (fdStep c.key) n (s, z.fd) (s', f') → f'.left = [] →
 ∃ z', Gos chOver (chStep t c) n (s, z) (s', z') ∧ z' = chFd { z with fd := f' } f' := by
 intro n
 induction n with
 | zero => intro s s' z f' _ h; exact absurd rfl h
 | succ n ih =>
   intro s s' z f' hl _ hg hf
   obtain ⟨h1, h2⟩ := hg
   have hov : chOver z = false := by unfold chOver; rw [hl]; rfl
   have hst := chStep_3 t c s z hl
   cases n with
   | zero =>
     have h2 : (s', f') = fdStep c.key (s, z.fd) := h2
     rw [← h2] at hst
     dsimp only at hst
     rw [if_pos hf] at hst
     refine ⟨_, Gos.one hov hst, ?_⟩
     unfold chFd
     split <;> rfl
   | succ n =>
     have hne : ¬ (fdStep c.key (s, z.fd)).2.left = [] := by
      have h3 : fdOver (fdStep c.key (s, z.fd)).2 = false := h2.1
      intro e
      unfold fdOver at h3
      rw [e] at h3
      exact absurd h3 (by decide)
     rw [if_neg hne] at hst
     obtain ⟨z', g1, g2⟩ := ih (fdStep c.key (s, z.fd)).1 s' { z with fd := (fdStep c.key (s, z.fd)).2 } f' hl (by omega) h2 hf
     refine ⟨z', ?_, g2⟩
     have := Gos.trans (Gos.one hov hst) g1
     rw [Nat.add_comm] at this
     exact this
theorem ch_begin (t : Nat) (c : Clm) (s : AW) (h : s.M 0 = s.M 1) : ∃ s3 tk3, St3 t s s3 ∧ Gos chOver (chStep t c) 3 (s, chNew) (s3, { chNew with ln := 3, tk := tk3 }) := by
 refine ⟨awLoad 2 (awServed t (awLoad 1 (awDraw t s))), ⟨0, s.M 0, true⟩, ⟨rfl, rfl, rfl, rfl, rfl, ?_⟩, ?_⟩
 · show s.n + 1 + 1 + 1 = s.n + 3; omega
 · have e1 : chStep t c (s, chNew) = (awDraw t s, { chNew with ln := 1, tk := ⟨2, s.M 0, true⟩ }) := rfl
   have e2 : chStep t c (awDraw t s, { chNew with ln := 1, tk := ⟨2, s.M 0, true⟩ }) = (awServed t (awLoad 1 (awDraw t s)), { chNew with ln := 2, tk := ⟨0, s.M 0, true⟩ }) := by
    have hm : (awDraw t s).M 1 = s.M 0 := by show upd s.M 0 ((s.M 0 + 1) % 18446744073709551616) 1 = _; rw [upd_other _ (by decide), h]
    have hk : tkStep t (awDraw t s) ⟨2, s.M 0, true⟩ = (awServed t (awLoad 1 (awDraw t s)), ⟨0, s.M 0, true⟩) := by
     unfold tkStep
     rw [if_neg (show ¬ (2 : Nat) = 1 by decide), if_pos rfl]
     rw [if_pos (by rw [hm]; exact beq_self_eq_true _)]
    show ((tkStep t (awDraw t s) ⟨2, s.M 0, true⟩).1, _) = _
    rw [hk]
    rfl
   exact ⟨rfl, by rw [e1]; exact ⟨rfl, by rw [e2]; exact ⟨rfl, rfl⟩⟩⟩
theorem ch_find {b : Int} {s : AW} {T : Tab} (S : Sw b s T) (t : Nat) (c : Clm) (h : s.M 0 = s.M 1) : ∃ n s4 tk f, n ≤ 30 ∧ St4 t s s4 ∧ fdRes s.it s4.M c.key fdNew f ((fdSpots c.key s4.M).find? (flHit s.it s4.M c.key)) ∧
 Gos chOver (chStep t c) n (s, chNew) (s4, chFd { chNew with ln := 3, tk := tk, fd := f } f) := by
 obtain ⟨s3, tk3, h3, g3⟩ := ch_begin t c s h
 obtain ⟨n, s4, f, f1, f2, f3, f4, f5, f6⟩ := fd_run c.key s3
 have hn0 : n ≠ 0 := by
  intro e
  rw [e] at f2
  have f2 : (s4, f) = (s3, fdNew) := f2.symm ▸ rfl
  have : f = fdNew := congrArg Prod.snd f2
  rw [this] at f3
  exact absurd f3 (List.cons_ne_nil _ _)
 obtain ⟨z', g4, e4⟩ := ch_lift t c n s3 s4 { chNew with ln := 3, tk := tk3 } f rfl hn0 f2 f3
 have hle := plPlaces_le (kyH c.key) (s3.M 2)
 refine ⟨3 + n, s4, tk3, f, by omega, ⟨f4.M.trans h3.M, f4.it.trans h3.it, f4.nt.trans h3.nt, f4.ho.trans h3.ho, f4.tk.trans h3.tk, ?_, ?_⟩, ?_, ?_⟩
 · rw [f4.n, h3.n]; omega
 · rw [f4.n, h3.n]; omega
 · rw [h3.it, ← f4.M] at f6
   exact f6
 · rw [← e4]
   exact g3.trans g4
theorem ch_there {b : Int} {s : AW} {T : Tab} (S : Sw b s T) (t : Nat) (c : Clm) (h : s.M 0 = s.M 1) {p : Spt} {r : Int} (A : Stand1 b s.it T c.key p r) :
 ∃ n s4 tk f, n ≤ 30 ∧ St4 t s s4 ∧ Gos chOver (chStep t c) n (s, chNew) (s4, { chNew with ln := 4, tk := tk, fd := f, ml := stVer p, p := p, ref := r }) := by
 obtain ⟨n, s4, tk, f, h1, h2, h3, h4⟩ := ch_find S t c h
 have S4 := S.st4 h2
 have A4 : Stand1 b s4.it T c.key p r := by rw [h2.it]; exact A
 rw [← h2.it, S4.some A4] at h3
 obtain ⟨e1, e2⟩ := h3
 rw [S4.rep.it p A.ok, A.rf] at e2
 have : chFd { chNew with ln := 3, tk := tk, fd := f } f = { chNew with ln := 4, tk := tk, fd := f, ml := stVer p, p := p, ref := r } := by
  unfold chFd
  rw [if_pos (by rw [e2]; have := fdHit_pos A.hit; omega), e1, e2]
 rw [this] at h4
 exact ⟨n, s4, tk, f, h1, h2, h4⟩
theorem ch_away {b : Int} {s : AW} {T : Tab} (S : Sw b s T) (t : Nat) (c : Clm) (h : s.M 0 = s.M 1) (A : ∀ p r, ¬ Stand1 b s.it T c.key p r) :
 ∃ n s4 tk f, n ≤ 30 ∧ St4 t s s4 ∧ Gos chOver (chStep t c) n (s, chNew) (s4, { chNew with ln := 10, tk := tk, fd := f }) := by
 obtain ⟨n, s4, tk, f, h1, h2, h3, h4⟩ := ch_find S t c h
 have S4 := S.st4 h2
 rw [← h2.it, S4.none (by rw [h2.it]; exact A)] at h3
 obtain ⟨e1, e2⟩ := h3
 have e2 : f.ref = 0 := e2
 have : chFd { chNew with ln := 3, tk := tk, fd := f } f = { chNew with ln := 10, tk := tk, fd := f } := by
  unfold chFd
  rw [if_neg (by rw [e2]; decide)]
 rw [this] at h4
 exact ⟨n, s4, tk, f, h1, h2, h4⟩
end
section
theorem fdHit_app {it : List It} {r : Int} {k : ByteArray} (x : It) (h : fdHit it r k = true) : fdHit (it ++ [x]) r k = true := by
 have h0 := h
 unfold fdHit at h0 ⊢
 simp only [Bool.and_eq_true, decide_eq_true_eq] at h0 ⊢
 refine ⟨h0.1, ?_⟩
 cases e : it[(r - 1).toNat]? with
 | none => rw [e] at h0; exact absurd h0.2 Bool.false_ne_true
 | some y =>
   obtain ⟨hl, -⟩ := List.getElem?_eq_some_iff.1 e
   rw [List.getElem?_append_left hl, e]
   rw [e] at h0
   exact h0.2
theorem fdHit_new (it : List It) (x : It) : fdHit (it ++ [x]) (it.length + 1) x.key = true := by
 unfold fdHit
 have e : ((it.length : Int) + 1 - 1).toNat = it.length := by omega
 rw [e, List.getElem?_append_right (Nat.le_refl _), Nat.sub_self]
 simp only [List.getElem?_cons_zero, Bool.and_eq_true, decide_eq_true_eq]
 exact ⟨by omega, trivial⟩
theorem Sw.put {b : Int} {s s' : AW} {T : Tab} (S : Sw b s T) {x : It} {p : Spt} (hp : p.ok) (hb : p.b = b) (hx : (b, p.q) ∈ plPair (kyH x.key) b) (hu : ∀ q r, Stand1 b s.it T x.key q r → q = p)
 (e2 : s'.M 2 = s.M 2) (hr : Rep s'.M (T.set p (fnvTag (kyH x.key), s.it.length + 1))) (hi : s'.it = s.it ++ [x]) :
 Sw b s' (T.set p (fnvTag (kyH x.key), s.it.length + 1)) ∧ Stand1 b s'.it (T.set p (fnvTag (kyH x.key), s.it.length + 1)) x.key p (s.it.length + 1) ∧
  (∀ l q r, l ≠ x.key → Stand1 b s.it T l q r → q ≠ p → Stand1 b s'.it (T.set p (fnvTag (kyH x.key), s.it.length + 1)) l q r) := by
 obtain ⟨v, hv⟩ : ∃ v, v = (fnvTag (kyH x.key), (s.it.length : Int) + 1) := ⟨_, rfl⟩
 rw [← hv] at hr ⊢
 have hnew : Stand1 b s'.it (T.set p v) x.key p (s.it.length + 1) := ⟨hp, hb, by rw [Tab.set_same, hv], by rw [hi]; exact fdHit_new _ _⟩
 have hold : ∀ l q r, Stand1 b s.it T l q r → q ≠ p → Stand1 b s'.it (T.set p v) l q r := fun l q r h hq => by
  refine ⟨h.ok, h.tb, ?_, by rw [hi]; exact fdHit_app _ h.hit⟩
  rw [Tab.set_ne _ fun e => hq (Spt.is_eq e)]
  exact h.rf
 have hback : ∀ l q r, Stand1 b s'.it (T.set p v) l q r → q ≠ p → Stand1 b s.it T l q r := fun l q r h hq => by
  have h1 := h.rf
  rw [Tab.set_ne _ fun e => hq (Spt.is_eq e)] at h1
  rcases S.sl q h.ok h.tb with e | ⟨m, u, g, -, -⟩
  · rw [e] at h1
    have := fdHit_pos h.hit
    have h1 : (0 : Int) = r := h1
    omega
  · have hru : r = u := h1.symm.trans g.rf
    subst hru
    have hg := fdHit_app x g.hit
    rw [← hi] at hg
    rw [fdHit_key h.hit hg]
    exact g
 refine ⟨⟨S.b0, S.b1, e2.trans S.wd, hr, fun q hq hqb => ?_, ?_⟩, hnew, fun l q r _ h hq => hold l q r h hq⟩
 · by_cases c : q = p
   · subst c
     exact .inr ⟨x.key, _, hnew, by rw [Tab.set_same, hv], hx⟩
   · rw [Tab.set_ne _ fun e => c (Spt.is_eq e)]
     rcases S.sl q hq hqb with e | ⟨m, u, g, g1, g2⟩
     · exact .inl e
     · exact .inr ⟨m, u, hold m q u g c, g1, g2⟩
 · have key : ∀ l q r, Stand1 b s'.it (T.set p v) l q r → Stand1 b s'.it (T.set p v) l p (s.it.length + 1) → q = p := fun l q r h k => by
    by_cases c : q = p
    · exact c
    · have hk : l = x.key := fdHit_key k.hit hnew.hit
      subst hk
      exact hu q r (hback _ q r h c)
   intro l q1 q2 r1 r2 h1 h2
   have fix : ∀ r, Stand1 b s'.it (T.set p v) l p r → Stand1 b s'.it (T.set p v) l p (s.it.length + 1) := fun r h => by
    have e := h.rf
    rw [Tab.set_same, hv] at e
    have e : (s.it.length : Int) + 1 = r := e
    rw [e]
    exact h
   by_cases c1 : q1 = p
   · subst c1
     exact (key l q2 r2 h2 (fix r1 h1)).symm
   · by_cases c2 : q2 = p
     · subst c2
       exact key l q1 r1 h1 (fix r2 h2)
     · exact S.one l q1 q2 r1 r2 (hback l q1 r1 h1 c1) (hback l q2 r2 h2 c2)
end
section
theorem Rep.item {M M' : Int → Int} {T : Tab} (h : Rep M T) {p : Spt} (hp : p.ok) {rf : Int} (e2 : M' p.item = rf)
 (e3 : ∀ a, 4096 ≤ a → a < 4294967296 → a ≠ p.item → M' a = M a) : Rep M' (T.set p ((T p).1, rf)) := by
 refine ⟨fun q hq => ?_, fun q hq => ?_, fun q hq => ?_⟩
 · rw [e3 _ hq.tags.1 hq.tags.2.1 (fun x => Spt.item_tags hp hq x.symm)]
   by_cases c : q.is p
   · have := Spt.is_eq c
     subst this
     rw [Tab.set_same]
     exact h.tg q hq
   · rw [Tab.set_ne _ c]; exact h.tg q hq
 · by_cases c : q.item = p.item
   · have := Spt.is_eq (Spt.item_is hq hp c)
     subst this
     rw [Tab.set_same, e2]
   · rw [e3 _ hq.item.1 hq.item.2.1 c, Tab.set_ne _ (fun x => c (by rw [Spt.is_eq x]))]
     exact h.it q hq
 · rw [e3 _ hq.tags.1 hq.tags.2.1 (fun x => Spt.item_tags hp hq x.symm)]
   exact h.wd q hq
structure StF (s s' : AW) (ids cnt : Int) : Prop where
 m0 : s'.M 0 = (s.M 0 + 1) % 18446744073709551616
 m1 : s'.M 1 = (s.M 1 + 1) % 18446744073709551616
 m2 : s'.M 2 = s.M 2
 m6 : s'.M 6 = cnt
 m7 : s'.M 7 = ids
 m8 : s'.M 8 = s.M 8
 nt : s'.nt = s.nt
 ho : s'.ho = -1
 n0 : s.n ≤ s'.n
 n1 : s'.n ≤ s.n + 60
theorem st_replaces {b : Int} {s : AW} {T : Tab} (S : Sw b s T) (t : Nat) (c : Clm) (mo : Int) (h : s.M 0 = s.M 1) {p : Spt} {r : Int} (A : Stand1 b s.it T c.key p r) (hd : stDecide c (itAt s.it r) (s.M 8) = none) :
 ∃ n s' z', n ≤ 60 ∧ Gos stOver (stStep t c mo) n (s, stNew) (s', z') ∧ stOver z' = true ∧ z'.an = 1 ∧ z'.nu = (s.M 7 + 1) % 18446744073709551616 ∧
  StF s s' ((s.M 7 + 1) % 18446744073709551616) (s.M 6) ∧ s'.it = s.it ++ [stIt c ((s.M 7 + 1) % 18446744073709551616) (s.M 8)] ∧
  Sw b s' (T.set p (fnvTag (kyH c.key), s.it.length + 1)) ∧ Stand1 b s'.it (T.set p (fnvTag (kyH c.key), s.it.length + 1)) c.key p (s.it.length + 1) := by
 obtain ⟨n, s4, tk, f, h1, h2, h4⟩ := st_there S t c mo h A
 have S4 := S.st4 h2
 have hp := A.ok
 have hv : 64 ≤ plVersion p.b p.q ∧ plVersion p.b p.q < 128 := hp.ver
 have hi := hp.item
 have e7 : s4.M 7 = s.M 7 := by rw [h2.M, upd_other _ (by decide)]
 have e8 : s4.M 8 = s.M 8 := by rw [h2.M, upd_other _ (by decide)]
 obtain ⟨x1, hx1⟩ : ∃ x, x = (s4.M (plVersion p.b p.q) + 1) % 18446744073709551616 := ⟨_, rfl⟩
 have hm : (awMark p s4).M = upd s4.M (plVersion p.b p.q) x1 := by rw [hx1]; rfl
 have m8 : (awMark p s4).M 8 = s.M 8 := by rw [hm, upd_other _ (by omega), e8]
 have m7 : (awMark p s4).M 7 = s.M 7 := by rw [hm, upd_other _ (by omega), e7]
 have hid : stId (awMark p s4) = (s.M 7 + 1) % 18446744073709551616 := by unfold stId; rw [m7]
 have hd4 : stDecide c (itAt (awMark p s4).it r) ((awMark p s4).M 8) = none := by rw [m8]; show stDecide c (itAt s4.it r) _ = none; rw [h2.it]; exact hd
 have g := h4.trans (st_repl (t := t) (mo := mo) (tk := tk) (fd := f) (rm := stZ.rm) (pu := stZ.pu) (id := 0) (an := 0) (nu := 0) (ep := 0) (pt := 0) hd4)
 rw [hid, m8] at g
 obtain ⟨s5, hs5⟩ : ∃ x, x = awRepl c p (awMark p s4) := ⟨_, rfl⟩
 obtain ⟨i7, hi7⟩ : ∃ x, x = (s.M 7 + 1) % 18446744073709551616 := ⟨_, rfl⟩
 have h5 : s5.M = upd (upd (upd s4.M (plVersion p.b p.q) x1) 7 i7) p.item (s.it.length + 1) := by
  rw [hs5]
  show upd (upd (awMark p s4).M 7 (((awMark p s4).M 7 + 1) % 18446744073709551616)) p.item ((s4.it.length : Int) + 1) = _
  rw [m7, hm, h2.it, hi7]
 have h5i : s5.it = s.it ++ [stIt c i7 (s.M 8)] := by
  rw [hs5]
  show s4.it ++ [stIt c (stId (awMark p s4)) ((awMark p s4).M 8)] = _
  rw [hid, m8, h2.it, hi7]
 obtain ⟨x2, hx2⟩ : ∃ x, x = (s5.M (plVersion p.b p.q) + 1) % 18446744073709551616 := ⟨_, rfl⟩
 have h6 : (awMark p s5).M = upd s5.M (plVersion p.b p.q) x2 := by rw [hx2]; rfl
 have h61 : (awMark p s5).M 1 = s.M 1 := by
  rw [h6, upd_other _ (by omega), h5, upd_other _ (by omega), upd_other _ (by omega), upd_other _ (by omega), h2.M, upd_other _ (by decide)]
 have h7 : (awGive (awMark p s5)).M = upd (upd s5.M (plVersion p.b p.q) x2) 1 ((s.M 1 + 1) % 18446744073709551616) := by
  show upd (awMark p s5).M 1 (((awMark p s5).M 1 + 1) % 18446744073709551616) = _
  rw [h61, h6]
 rw [← hs5, ← hi7] at g
 have lo : ∀ a, a ≠ 1 → a ≠ 7 → a < 64 → (awGive (awMark p s5)).M a = s4.M a := fun a a1 a7 a2 => by
  rw [h7, upd_other _ a1, upd_other _ (by omega), h5, upd_other _ (by omega), upd_other _ a7, upd_other _ (by omega)]
 have hx := (A.at S).2
 have hrep : Rep (awGive (awMark p s5)).M (T.set p (fnvTag (kyH c.key), s.it.length + 1)) := by
  have := S4.rep.item (M' := (awGive (awMark p s5)).M) hp (rf := s.it.length + 1) (by rw [h7, upd_other _ (by omega), upd_other _ (by omega), h5, upd_same]) (fun a a1 _ a3 => by
   rw [h7, upd_other _ (by omega), upd_other _ (by omega), h5, upd_other _ a3, upd_other _ (by omega), upd_other _ (by omega)])
  rw [(A.at S).1] at this
  exact this
 have e2 : (awGive (awMark p s5)).M 2 = s.M 2 := by rw [lo 2 (by decide) (by decide) (by decide), h2.M, upd_other _ (by decide)]
 have hsw := Sw.put S (x := stIt c i7 (s.M 8)) (s' := awGive (awMark p s5)) hp A.tb hx (fun q u hq => S.one _ _ _ _ _ hq A) e2 hrep h5i
 have hn5 : s5.n = s4.n + 4 := by
  rw [hs5]
  show s4.n + 1 + 1 + 1 + 1 = s4.n + 4
  omega
 have hn0 := h2.n0
 have hn1 := h2.n1
 refine ⟨n + 6, _, _, by omega, g, rfl, rfl, hi7.symm ▸ rfl, ⟨?_, ?_, e2, ?_, ?_, ?_, ?_, rfl, ?_, ?_⟩, by rw [← hi7]; exact h5i, hsw.1, hsw.2.1⟩
 · rw [lo 0 (by decide) (by decide) (by decide), h2.M, upd_same]
 · rw [h7, upd_same]
 · rw [lo 6 (by decide) (by decide) (by decide), h2.M, upd_other _ (by decide)]
 · rw [h7, upd_other _ (by decide), upd_other _ (by omega), h5, upd_other _ (by omega), upd_same, hi7]
 · rw [lo 8 (by decide) (by decide) (by decide), h2.M, upd_other _ (by decide)]
 · show s5.nt = s.nt
   rw [hs5]
   exact h2.nt
 · show s.n ≤ s5.n + 1 + 1
   omega
 · show s5.n + 1 + 1 ≤ s.n + 60
   omega
end
section
theorem st_tells {b : Int} {s : AW} {T : Tab} (S : Sw b s T) (t : Nat) (c : Clm) (mo : Int) (h : s.M 0 = s.M 1) {p : Spt} {r k : Int} (A : Stand1 b s.it T c.key p r) (hd : stDecide c (itAt s.it r) (s.M 8) = some k) :
 ∃ n s' z', n ≤ 60 ∧ Gos stOver (stStep t c mo) n (s, stNew) (s', z') ∧ stOver z' = true ∧ z'.an = k ∧ z'.nu = 0 ∧ StF s s' (s.M 7) (s.M 6) ∧ s'.it = s.it ∧ Sw b s' T := by
 obtain ⟨n, s4, tk, f, h1, h2, h4⟩ := st_there S t c mo h A
 have hp := A.ok
 have hv : 64 ≤ plVersion p.b p.q ∧ plVersion p.b p.q < 128 := hp.ver
 obtain ⟨x1, hx1⟩ : ∃ x, x = (s4.M (plVersion p.b p.q) + 1) % 18446744073709551616 := ⟨_, rfl⟩
 have hm : (awMark p s4).M = upd s4.M (plVersion p.b p.q) x1 := by rw [hx1]; rfl
 have m8 : (awMark p s4).M 8 = s.M 8 := by rw [hm, upd_other _ (by omega), h2.M, upd_other _ (by decide)]
 have hd4 : stDecide c (itAt (awMark p s4).it r) ((awMark p s4).M 8) = some k := by rw [m8]; show stDecide c (itAt s4.it r) _ = some k; rw [h2.it]; exact hd
 have g := h4.trans (st_not (t := t) (mo := mo) (tk := tk) (fd := f) (rm := stZ.rm) (pu := stZ.pu) (id := 0) (an := 0) (nu := 0) (ep := 0) (pt := 0) hd4)
 obtain ⟨s5, hs5⟩ : ∃ x, x = awLoad 8 (awMark p s4) := ⟨_, rfl⟩
 rw [← hs5] at g
 have h5 : s5.M = upd s4.M (plVersion p.b p.q) x1 := by rw [hs5]; exact hm
 obtain ⟨x2, hx2⟩ : ∃ x, x = (s5.M (plVersion p.b p.q) + 1) % 18446744073709551616 := ⟨_, rfl⟩
 have h6 : (awMark p s5).M = upd s5.M (plVersion p.b p.q) x2 := by rw [hx2]; rfl
 have h61 : (awMark p s5).M 1 = s.M 1 := by rw [h6, upd_other _ (by omega), h5, upd_other _ (by omega), h2.M, upd_other _ (by decide)]
 have h7 : (awGive (awMark p s5)).M = upd (upd s5.M (plVersion p.b p.q) x2) 1 ((s.M 1 + 1) % 18446744073709551616) := by
  show upd (awMark p s5).M 1 (((awMark p s5).M 1 + 1) % 18446744073709551616) = _
  rw [h61, h6]
 have lo : ∀ a, a ≠ 1 → a < 64 ∨ 4096 ≤ a → (awGive (awMark p s5)).M a = s4.M a := fun a a1 a2 => by
  rw [h7, upd_other _ a1, upd_other _ (by omega), h5, upd_other _ (by omega)]
 have hn5 : s5.n = s4.n + 2 := by
  rw [hs5]
  show s4.n + 1 + 1 = s4.n + 2
  omega
 have hi5 : s5.it = s.it := by rw [hs5]; exact h2.it
 have hn0 := h2.n0
 have hn1 := h2.n1
 have lo2 : ∀ a, a ≠ 0 → a ≠ 1 → a < 64 ∨ 4096 ≤ a → (awGive (awMark p s5)).M a = s.M a := fun a a0 a1 a2 => by rw [lo a a1 a2, h2.M, upd_other _ a0]
 refine ⟨n + 4, _, _, by omega, g, rfl, rfl, rfl, ⟨?_, ?_, lo2 2 (by decide) (by decide) (by omega), lo2 6 (by decide) (by decide) (by omega), lo2 7 (by decide) (by decide) (by omega), lo2 8 (by decide) (by decide) (by omega), ?_, rfl, ?_, ?_⟩, hi5, ?_⟩
 · rw [lo 0 (by decide) (by omega), h2.M, upd_same]
 · rw [h7, upd_same]
 · show s5.nt = s.nt
   rw [hs5]
   exact h2.nt
 · show s.n ≤ s5.n + 1 + 1
   omega
 · show s5.n + 1 + 1 ≤ s.n + 60
   omega
 · exact S.same (lo2 2 (by decide) (by decide) (by omega)) (fun a a1 _ => lo2 a (by omega) (by omega) (by omega)) hi5
end
section
theorem st_news {b : Int} {s : AW} {T : Tab} (S : Sw b s T) (t : Nat) (c : Clm) (mo : Int) (h : s.M 0 = s.M 1) (A : ∀ p r, ¬ Stand1 b s.it T c.key p r) (hv : ¬ (c.verb = 5 ∨ c.verb = 6))
 (hf : 0 ≤ twFree (s.M (plTags b (fnvBucket (kyH c.key) b)))) :
 ∃ n s' z' p, n ≤ 60 ∧ Gos stOver (stStep t c mo) n (s, stNew) (s', z') ∧ stOver z' = true ∧ z'.an = 1 ∧ z'.nu = (s.M 7 + 1) % 18446744073709551616 ∧
  StF s s' ((s.M 7 + 1) % 18446744073709551616) ((s.M 6 + 1) % 18446744073709551616) ∧ s'.it = s.it ++ [stIt c ((s.M 7 + 1) % 18446744073709551616) (s.M 8)] ∧
  Sw b s' (T.set p (fnvTag (kyH c.key), s.it.length + 1)) ∧ Stand1 b s'.it (T.set p (fnvTag (kyH c.key), s.it.length + 1)) c.key p (s.it.length + 1) ∧
  (∀ l q r, Stand1 b s.it T l q r → Stand1 b s'.it (T.set p (fnvTag (kyH c.key), s.it.length + 1)) l q r) ∧
  ∀ a, 64 ≤ a → a < 128 → s'.M a % 2 = s.M a % 2 := by
 obtain ⟨n, s4, tk, f, h1, h2, h4⟩ := st_away S t c mo h A
 rw [if_neg hv] at h4
 have S4 := S.st4 h2
 have hb0 := S.b0
 have hb1 := S.b1
 have hk := kyH_bd c.key
 have hbk := fnvBucket_bd (h := kyH c.key) hb0 (by omega : b ≤ 12)
 obtain ⟨p, hpe⟩ : ∃ p : Spt, p = ⟨b, fnvBucket (kyH c.key) b, twFree (s.M (plTags b (fnvBucket (kyH c.key) b)))⟩ := ⟨_, rfl⟩
 have hfb := twFree_bd (s.M (plTags b (fnvBucket (kyH c.key) b)))
 have hp : p.ok := by rw [hpe]; exact ⟨hb0, by dsimp only; omega, hbk.1, hbk.2, hf, by dsimp only; omega⟩
 have hpb : p.b = b := by rw [hpe]
 have hpq : p.q = fnvBucket (kyH c.key) b := by rw [hpe]
 have hpt : p.tags = plTags b (fnvBucket (kyH c.key) b) := by rw [hpe]; rfl
 have ht4 : s4.M (plTags b (fnvBucket (kyH c.key) b)) = s.M (plTags b (fnvBucket (kyH c.key) b)) := by
  have := hp.tags
  rw [hpt] at this
  rw [h2.M, upd_other _ (by omega)]
 obtain ⟨rm', pu', g5⟩ := st_new (t := t) (c := c) (mo := mo) (s := s4) (tk := tk) (fd := f) (rm := stZ.rm) (pu := stZ.pu) (p := p) (ref := 0) (id := 0) (an := 0) (nu := 0) (ep := 0) (pt := 0) (m := []) (p0 := sp20) hb0 (by omega) S4.wd (by rw [ht4]; exact hf) (by rw [ht4]; exact hpe)
 have g := h4.trans g5
 have hv : 64 ≤ plVersion p.b p.q ∧ plVersion p.b p.q < 128 := hp.ver
 have hi := hp.item
 have htg := hp.tags
 obtain ⟨sL, hsL⟩ : ∃ x, x = awLooks b (fnvBucket (kyH c.key) b) s4 := ⟨_, rfl⟩
 have hLM : sL.M = s4.M := by rw [hsL]; rfl
 have hLi : sL.it = s.it := by rw [hsL]; exact h2.it
 have hLn : sL.n = s4.n + 3 := by rw [hsL]; show s4.n + 1 + 1 + 1 = s4.n + 3; omega
 have hLt : sL.nt = s.nt := by rw [hsL]; exact h2.nt
 rw [← hsL] at g
 obtain ⟨x1, hx1⟩ : ∃ x, x = (sL.M (plVersion p.b p.q) + 1) % 18446744073709551616 := ⟨_, rfl⟩
 have hm : (awMark p sL).M = upd s4.M (plVersion p.b p.q) x1 := by rw [hx1, ← hLM]; rfl
 have m8 : (awMark p sL).M 8 = s.M 8 := by rw [hm, upd_other _ (by omega), h2.M, upd_other _ (by decide)]
 have m7 : (awMark p sL).M 7 = s.M 7 := by rw [hm, upd_other _ (by omega), h2.M, upd_other _ (by decide)]
 have hid : stId (awMark p sL) = (s.M 7 + 1) % 18446744073709551616 := by unfold stId; rw [m7]
 rw [hid, m8] at g
 obtain ⟨s5, hs5⟩ : ∃ x, x = awNew c p (awMark p sL) := ⟨_, rfl⟩
 obtain ⟨i7, hi7⟩ : ∃ x, x = (s.M 7 + 1) % 18446744073709551616 := ⟨_, rfl⟩
 obtain ⟨tw, htw⟩ : ∃ x, x = twWith (s4.M p.tags) p.s (fnvTag (kyH c.key)) := ⟨_, rfl⟩
 have hit : p.item ≠ p.tags := by have := hp.s0; omega
 have h5 : s5.M = upd (upd (upd (upd (upd s4.M (plVersion p.b p.q) x1) 7 i7) p.item (s.it.length + 1)) p.tags tw) 6 ((s.M 6 + 1) % 18446744073709551616) := by
  have e1 : s5.M = upd (upd (upd (upd (awMark p sL).M 7 (((awMark p sL).M 7 + 1) % 18446744073709551616)) p.item ((sL.it.length : Int) + 1)) p.tags (twWith (upd (upd (awMark p sL).M 7 (((awMark p sL).M 7 + 1) % 18446744073709551616)) p.item ((sL.it.length : Int) + 1) p.tags) p.s (fnvTag (kyH c.key)))) 6 ((upd (upd (upd (awMark p sL).M 7 (((awMark p sL).M 7 + 1) % 18446744073709551616)) p.item ((sL.it.length : Int) + 1)) p.tags (twWith (upd (upd (awMark p sL).M 7 (((awMark p sL).M 7 + 1) % 18446744073709551616)) p.item ((sL.it.length : Int) + 1) p.tags) p.s (fnvTag (kyH c.key))) 6 + 1) % 18446744073709551616) := by rw [hs5]; rfl
  have e6 : ∀ x y z : Int, upd (upd (upd (awMark p sL).M 7 x) p.item y) p.tags z 6 = s.M 6 := fun x y z => by
   rw [upd_other _ (by omega), upd_other _ (by omega), upd_other _ (by decide), hm, upd_other _ (by omega), h2.M, upd_other _ (by decide)]
  have et : ∀ x y : Int, upd (upd (awMark p sL).M 7 x) p.item y p.tags = s4.M p.tags := fun x y => by
   rw [upd_other _ (fun e => hit e.symm), upd_other _ (by omega), hm, upd_other _ (by omega)]
  rw [e1, e6, et, m7, hm, hLi, hi7, htw]
 have h5i : s5.it = s.it ++ [stIt c i7 (s.M 8)] := by
  rw [hs5]
  show sL.it ++ [stIt c (stId (awMark p sL)) ((awMark p sL).M 8)] = _
  rw [hid, m8, hLi, hi7]
 obtain ⟨x2, hx2⟩ : ∃ x, x = (s5.M (plVersion p.b p.q) + 1) % 18446744073709551616 := ⟨_, rfl⟩
 have h6 : (awMark p s5).M = upd s5.M (plVersion p.b p.q) x2 := by rw [hx2]; rfl
 have h51 : ∀ a, a ≠ 7 → a ≠ 6 → a < 64 → s5.M a = s4.M a := fun a a7 a6 a2 => by
  rw [h5, upd_other _ a6, upd_other _ (by omega), upd_other _ (by omega), upd_other _ a7, upd_other _ (by omega)]
 have h61 : (awMark p s5).M 1 = s.M 1 := by
  rw [h6, upd_other _ (by omega), h51 1 (by decide) (by decide) (by decide), h2.M, upd_other _ (by decide)]
 have h7 : (awGive (awMark p s5)).M = upd (upd s5.M (plVersion p.b p.q) x2) 1 ((s.M 1 + 1) % 18446744073709551616) := by
  show upd (awMark p s5).M 1 (((awMark p s5).M 1 + 1) % 18446744073709551616) = _
  rw [h61, h6]
 rw [← hs5, ← hi7] at g
 have lo : ∀ a, a ≠ 1 → a ≠ 7 → a ≠ 6 → a < 64 → (awGive (awMark p s5)).M a = s4.M a := fun a a1 a7 a6 a2 => by
  rw [h7, upd_other _ a1, upd_other _ (by omega), h51 a a7 a6 a2]
 have hx : (b, p.q) ∈ plPair (kyH c.key) b := by rw [plPair_in hb0 (by omega), hpq]; exact List.mem_cons_self ..
 have htgb := fnvTag_bd (kyH c.key) hk.1 hk.2
 have hrep : Rep (awGive (awMark p s5)).M (T.set p (fnvTag (kyH c.key), s.it.length + 1)) := by
  refine S4.rep.slot (M' := (awGive (awMark p s5)).M) hp (by omega) htgb.2 ?_ ?_ (fun a a1 _ a3 a4 => ?_)
  · rw [h7, upd_other _ (by omega), upd_other _ (by omega), h5, upd_other _ (by omega), upd_same, htw]
  · rw [h7, upd_other _ (by omega), upd_other _ (by omega), h5, upd_other _ (by omega), upd_other _ hit, upd_same]
  · rw [h7, upd_other _ (by omega), upd_other _ (by omega), h5, upd_other _ (by omega), upd_other _ a3, upd_other _ a4, upd_other _ (by omega), upd_other _ (by omega)]
 have e2 : (awGive (awMark p s5)).M 2 = s.M 2 := by rw [lo 2 (by decide) (by decide) (by decide) (by decide), h2.M, upd_other _ (by decide)]
 have hsw := Sw.put S (x := stIt c i7 (s.M 8)) (s' := awGive (awMark p s5)) hp hpb hx (fun q u hq => absurd hq (A q u)) e2 hrep h5i
 have hn5 : s5.n = s4.n + 10 := by
  rw [hs5]
  show sL.n + 1 + 1 + 1 + 1 + 1 + 1 + 1 = s4.n + 10
  omega
 have hn0 := h2.n0
 have hn1 := h2.n1
 refine ⟨n + 12, _, _, p, by omega, g, rfl, rfl, hi7.symm ▸ rfl, ⟨?_, ?_, e2, ?_, ?_, ?_, ?_, rfl, ?_, ?_⟩, by rw [← hi7]; exact h5i, hsw.1, hsw.2.1, ?_, ?_⟩
 · rw [lo 0 (by decide) (by decide) (by decide) (by decide), h2.M, upd_same]
 · rw [h7, upd_same]
 · rw [h7, upd_other _ (by decide), upd_other _ (by omega), h5, upd_same]
 · rw [h7, upd_other _ (by decide), upd_other _ (by omega), h5, upd_other _ (by decide), upd_other _ (by omega), upd_other _ (by omega), upd_same, hi7]
 · rw [lo 8 (by decide) (by decide) (by decide) (by decide), h2.M, upd_other _ (by decide)]
 · show s5.nt = s.nt
   rw [hs5]
   exact hLt
 · show s.n ≤ s5.n + 1 + 1
   omega
 · show s5.n + 1 + 1 ≤ s.n + 60
   omega
 · intro l q r hq
   refine hsw.2.2 l q r (fun e => A q r (by have e : l = c.key := e; rw [← e]; exact hq)) hq (fun e => ?_)
   subst e
   have g1 := (hq.at S).1
   have := S.rep.tg q hp
   rw [hpt, g1] at this
   have hps : q.s = twFree (s.M (plTags b (fnvBucket (kyH c.key) b))) := by rw [hpe]
   rw [hps, twFree_pos hf] at this
   have := fnvTag_bd (kyH l) (kyH_bd l).1 (kyH_bd l).2
   omega
 · intro a h1' h2'
   rw [h7, upd_other _ (by omega)]
   by_cases e : a = plVersion p.b p.q
   · rw [e, upd_same, hx2, h5, upd_other _ (by omega), upd_other _ (by omega), upd_other _ (by omega), upd_other _ (by omega), upd_same, hx1, hLM, h2.M, upd_other _ (by omega)]
     omega
   · rw [upd_other _ e, h5, upd_other _ (by omega), upd_other _ (by omega), upd_other _ (by omega), upd_other _ (by omega), upd_other _ e, h2.M, upd_other _ (by omega)]
end
section
structure AgS (b : Int) (k : ByteArray) (s : AW) (p : Spt) (T : Tab) (n : Nat) (x : It) (j : Nat) : Prop where
 sw : Sw b s T
 std : Stand1 b s.it T k p n
 only : ∀ l q r, Stand1 b s.it T l q r → l = k
 len : s.it.length = n
 last : itAt s.it n = x
 ids : s.M 7 = n
 cnt : s.M 6 = 1
 srv : s.M 1 = j
 nxt : s.M 0 = j
 ep : s.M 8 = 0
 ho : s.ho = -1
 nt : s.nt = []
 n0 : 0 ≤ s.n
 n1 : s.n ≤ 60 * j
theorem itAt_new (it : List It) (x : It) : itAt (it ++ [x]) ((it.length : Int) + 1) = x := by
 unfold itAt
 rw [if_pos ⟨by omega, by rw [List.length_append, List.length_singleton]; omega⟩]
 have e : ((it.length : Int) + 1 - 1).toNat = it.length := by omega
 rw [e, List.getElem?_append_right (Nat.le_refl _), Nat.sub_self]
 rfl
theorem sw_new {b : Int} (b0 : 1 ≤ b) (b1 : b ≤ 11) : Sw b (aw0 b) (fun _ => (0, 0)) := by
 have hM : ∀ a, a ≠ 2 → (aw0 b).M a = 0 := fun a h => by show upd (fun _ => 0) 2 (plWord b 0) a = 0; rw [upd_other _ h]
 refine ⟨b0, b1, ?_, ⟨fun p hp => ?_, fun p hp => ?_, fun p hp => ?_⟩, fun p _ _ => .inl rfl, fun k p q r u h _ => ?_⟩
 · show upd (fun _ => 0) 2 (plWord b 0) 2 = b
   rw [upd_same]
   unfold plWord
   omega
 · rw [hM _ (by have := hp.tags; omega)]
   unfold twTag
   split <;> simp
 · exact hM _ (by have := hp.item; omega)
 · rw [hM _ (by have := hp.tags; omega)]; decide
 · have h1 := h.rf
   have := fdHit_pos h.hit
   have h1 : (0 : Int) = r := h1
   omega
theorem ag_new {b : Int} (b0 : 1 ≤ b) (b1 : b ≤ 11) (t : Nat) (c : Clm) (hv : ¬ (c.verb = 5 ∨ c.verb = 6)) :
 ∃ m s' z' p T, runN stOver (stStep t c 16) 200000 (aw0 b, stNew) = (m, s', z') ∧ stOver z' = true ∧ z'.an = 1 ∧ z'.nu = 1 ∧ AgS b c.key s' p T 1 (stIt c 1 0) 1 ∧ ∀ a, 64 ≤ a → a < 128 → s'.M a % 2 = 0 := by
 have S := sw_new b0 b1
 have hM : ∀ a, a ≠ 2 → (aw0 b).M a = 0 := fun a h => by show upd (fun _ => 0) 2 (plWord b 0) a = 0; rw [upd_other _ h]
 have hk := kyH_bd c.key
 have hbk := fnvBucket_bd (h := kyH c.key) b0 (by omega : b ≤ 12)
 have hno : ∀ l p r, ¬ Stand1 b (aw0 b).it (fun _ => (0, 0)) l p r := fun l p r h => by
  have h1 := h.rf
  have := fdHit_pos h.hit
  have h1 : (0 : Int) = r := h1
  omega
 have htg : plTags b (fnvBucket (kyH c.key) b) ≠ 2 := by unfold plTags; split <;> omega
 obtain ⟨m, s', z', p, h1, h2, h3, h4, h5, h6, h7, h8, h9, h10, h11⟩ := st_news S t c 16 (by rw [hM 0 (by decide), hM 1 (by decide)]) (hno c.key) hv (by rw [hM _ htg]; decide)
 have e7 := hM 7 (by decide)
 have e8 := hM 8 (by decide)
 have e6 := hM 6 (by decide)
 rw [e7] at h5 h6 h7
 rw [e8] at h7
 rw [e6] at h6
 have hi : s'.it = [stIt c 1 0] := h7
 have hn0 := h6.n0
 have hn1 := h6.n1
 have hz : (aw0 b).n = 0 := rfl
 rw [hz] at hn0 hn1
 refine ⟨m, s', z', p, _, h2.fin (by omega) h3, h3, h4, h5, ⟨h8, h9, fun l q r g => ?_, by rw [hi]; rfl, by rw [hi]; exact itAt_new [] _, h6.m7, h6.m6, ?_, ?_, by rw [h6.m8, e8], h6.ho, h6.nt, hn0, by omega⟩, fun a q0 q1 => by rw [h11 a q0 q1, hM a (by omega)]; rfl⟩
 · by_cases e : q = p
   · subst e
     have hr : r = 1 := by rw [← g.rf, Tab.set_same]; rfl
     subst hr
     exact fdHit_key g.hit h9.hit
   · have hr := g.rf
     rw [Tab.set_ne _ fun x => e (Spt.is_eq x)] at hr
     have := fdHit_pos g.hit
     have hr : (0 : Int) = r := hr
     omega
 · rw [h6.m1, hM 1 (by decide)]; rfl
 · rw [h6.m0, hM 0 (by decide)]; rfl
end
end Go.Proofs.YtifkfhnbkjkakaaGreatDoor
