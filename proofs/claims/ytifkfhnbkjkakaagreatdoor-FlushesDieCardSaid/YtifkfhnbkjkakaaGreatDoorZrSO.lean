/- Layer 25, plain: a Store of a key that stands: what its steps want stays so, though there may be no room. Layer 27, plain: a world of a few keys, each with a record that never dies by itself: adds, touches, ticks, a Flush. Layer 27: a Flush by itself; the chapter's examples. Layer 27, plain: a Flush by itself in a world of a few keys; the epoch behind it. -/
import Derived.Test.YtifkfhnbkjkakaaGreatDoorZrSH
import Derived.Test.YtifkfhnbkjkakaaGreatDoorZrSD1
import Derived.Test.YtifkfhnbkjkakaaGreatDoorZrSI
import Derived.Test.YtifkfhnbkjkakaaGreatDoorZrBaE
import Derived.Test.YtifkfhnbkjkakaaGreatDoorZrBaH
namespace Go.Proofs.YtifkfhnbkjkakaaGreatDoor
set_option linter.unusedSimpArgs false
set_option linter.unusedVariables false
set_option maxHeartbeats 4000000
set_option maxRecDepth 100000
section
def KF (key : ByteArray) (b : Int) (s : AW) : Prop := ∃ T p r, Sw b s T ∧ Stand1 b s.it T key p r
def StJL (c : Clm) (b : Int) (s : AW) (z : Stm) : Nat → Prop
 | 1 => KF c.key b s ∧ (z.tk.ln = 1 ∨ z.tk.ln = 2)
 | 2 => KF c.key b s
 | 3 => FdI z.fd ∧ z.fd.left ≠ [] ∧ ∃ n s4 f, Gos fdOver (fdStep c.key) n (s, z.fd) (s4, f) ∧ f.left = [] ∧ 0 < f.ref
 | _ => False
structure StJ1 (c : Clm) (b : Int) (s : AW) (z : Stm) : Prop where
 bd : Bd s.M
 il : s.it.length < 1000000
 b0 : 1 ≤ b
 b1 : b ≤ 11
 wd : s.M 2 = b
 l : StJL c b s z z.ln
def StJ (c : Clm) (g b : Int) (s : AW) (z : Stm) : Prop := StI c g b s z ∨ StJ1 c b s z
section
variable {c : Clm} {g b : Int} {s s' : AW} {z z' : Stm}
theorem KF.same {key : ByteArray} (h : KF key b s) (e2 : s'.M 2 = s.M 2) (e : ∀ a, 4096 ≤ a → a < 4294967296 → s'.M a = s.M a) (hi : s'.it = s.it) : KF key b s' := by
 obtain ⟨T, p, r, S, A⟩ := h
 exact ⟨T, p, r, S.same e2 e hi, by rw [hi]; exact A⟩
theorem StJ1.pre (h : StJ1 c b s z) : stPre c g s z = true := by
 obtain ⟨bd, il, b0, b1, wd, l⟩ := h
 obtain ⟨ln, tk, fd, ml, rm, pu, p, ref, id, an, nu, ep, pt⟩ := z
 dsimp only at l
 unfold stPre
 rw [decide_eq_true (by omega : s.it.length ≤ 1000000), Bool.true_and]
 dsimp only
 have hnow : plNow (s.M 2) = 0 := by rw [wd]; exact plNow_one b0 (by omega)
 match ln, l with
 | 1, l => exact decide_eq_true l.2
 | 2, l => exact decide_eq_true hnow
 | 3, l =>
   have h1 := l.1.step c.key s l.2.1
   show (fdB fd && (!fd.left.isEmpty && (decide ((fdStep c.key (s, fd)).2.ref ≤ 0) || spB (fdStep c.key (s, fd)).2.p))) = true
   have h2 : fd.left.isEmpty = false := by
    cases e : fd.left with
    | nil => exact absurd e l.2.1
    | cons => rfl
   rw [show fdB fd = true from l.1.b, h2]
   rcases h1.2.1 with e | e
   · have e : (fdStep c.key (s, fd)).2.ref = 0 := e
     rw [e]; rfl
   · have e : spB (fdStep c.key (s, fd)).2.p = true := e.1
     rw [e, Bool.or_true]; rfl
theorem StJ.pre (h : StJ c g b s z) : stPre c g s z = true := h.elim (fun h => h.pre) fun h => h.pre
theorem StJ1.q (h : StJ1 c b s z) (hM : s'.M = s.M) (hi : s'.it = s.it) (hl : StJL c b s' z' z'.ln) : StJ1 c b s' z' :=
 ⟨by rw [hM]; exact h.bd, by rw [hi]; exact h.il, h.b0, h.b1, by rw [hM]; exact h.wd, hl⟩
theorem StJ1.step (h : StJ1 c b s z) (t : Nat) (mo : Int) : StJ c g b (stStep t c mo (s, z)).1 (stStep t c mo (s, z)).2 := by
 have h0 := h
 obtain ⟨bd, il, b0, b1, wd, l⟩ := h
 obtain ⟨ln, tk, fd, ml, rm, pu, p, ref, id, an, nu, ep, pt⟩ := z
 dsimp only at l
 have mm : ∀ x : Int, 0 ≤ x % 18446744073709551616 ∧ x % 18446744073709551616 < 18446744073709551616 := fun x => ⟨Int.emod_nonneg _ (by decide), Int.emod_lt_of_pos _ (by decide)⟩
 match ln, l, h0 with
 | 1, l, h0 =>
   obtain ⟨l2, l3⟩ := l
   rcases l3 with e | e
   · have e1 : stStep t c mo (s, ⟨1, tk, fd, ml, rm, pu, p, ref, id, an, nu, ep, pt⟩) = (awDraw t s, ⟨1, ⟨2, s.M 0, true⟩, fd, ml, rm, pu, p, ref, id, an, nu, ep, pt⟩) := by
      have : tkStep t s tk = (awDraw t s, ⟨2, s.M 0, true⟩) := by unfold tkStep; rw [if_pos e]
      show ((tkStep t s tk).1, _) = _
      rw [this]
      rfl
     rw [e1]
     have hM : ∀ a, a ≠ 0 → (awDraw t s).M a = s.M a := fun a h => upd_other _ h
     exact .inr ⟨bd.upd 0 (mm _).1 (mm _).2, il, b0, b1, (hM 2 (by decide)).trans wd, l2.same (hM 2 (by decide)) (fun a a1 _ => hM a (by omega)) rfl, .inr rfl⟩
   · by_cases hs : (s.M 1 == tk.tick) = true
     · have e1 : stStep t c mo (s, ⟨1, tk, fd, ml, rm, pu, p, ref, id, an, nu, ep, pt⟩) = (awServed t (awLoad 1 s), ⟨2, ⟨0, tk.tick, tk.dr⟩, fd, ml, rm, pu, p, ref, id, an, nu, ep, pt⟩) := by
        have : tkStep t s tk = (awServed t (awLoad 1 s), ⟨0, tk.tick, tk.dr⟩) := by
         have e : tk.ln = 2 := e
         unfold tkStep; rw [if_neg (by rw [e]; decide), if_pos e, if_pos hs]
        show ((tkStep t s tk).1, _) = _
        rw [this]
        rfl
       rw [e1]
       exact .inr (h0.q rfl rfl (l2.same rfl (fun _ _ _ => rfl) rfl))
     · have e1 : stStep t c mo (s, ⟨1, tk, fd, ml, rm, pu, p, ref, id, an, nu, ep, pt⟩) = (awLoad 1 s, ⟨1, tk, fd, ml, rm, pu, p, ref, id, an, nu, ep, pt⟩) := by
        have e : tk.ln = 2 := e
        have : tkStep t s tk = (awLoad 1 s, tk) := by unfold tkStep; rw [if_neg (by rw [e]; decide), if_pos e, if_neg hs]
        show ((tkStep t s tk).1, ({ (⟨1, tk, fd, ml, rm, pu, p, ref, id, an, nu, ep, pt⟩ : Stm) with tk := (tkStep t s tk).2, ln := if (tkStep t s tk).2.ln = 0 then 2 else 1 } : Stm)) = _
        rw [this]
        dsimp only
        rw [if_neg (by rw [e]; decide)]
       rw [e1]
       exact .inr (h0.q rfl rfl ⟨l2.same rfl (fun _ _ _ => rfl) rfl, .inr e⟩)
 | 2, l, h0 =>
   obtain ⟨T, p', r', S, A⟩ := l.same (s' := awLoad 2 s) rfl (fun _ _ _ => rfl) rfl
   obtain ⟨n, s4, f, f1, f2, f3, f4, f5, f6⟩ := fd_run c.key (awLoad 2 s)
   refine .inr (h0.q rfl rfl ⟨fdI_new, List.cons_ne_nil _ _, n, s4, f, f2, f3, ?_⟩)
   have h4 := f4.M
   have S4 : Sw b s4 T := S.same (by rw [h4]) (fun a _ _ => by rw [h4]) f4.it
   have A4 : Stand1 b s4.it T c.key p' r' := by rw [f4.it]; exact A
   rw [← h4, ← f4.it, S4.some A4] at f6
   obtain ⟨e1, e2⟩ := f6
   rw [S4.rep.it p' A.ok, A.rf] at e2
   rw [e2]
   have := fdHit_pos A.hit
   omega
 | 3, l, h0 =>
   obtain ⟨l3, l4, n, s4, f, g1, g2, g3⟩ := l
   obtain ⟨f1, f2, f3, f4⟩ := l3.step c.key s l4
   dsimp only at f1 f2 f3 f4
   rw [stStep_3 t c mo s _ rfl]
   dsimp only
   have hg : ∃ m, Gos fdOver (fdStep c.key) m ((fdStep c.key (s, fd)).1, (fdStep c.key (s, fd)).2) (s4, f) := by
    cases n with
    | zero =>
      have e : (s4, f) = (s, fd) := g1
      have e : f = fd := congrArg Prod.snd e
      exact absurd (by rw [← e]; exact g2) l4
    | succ m => exact ⟨m, g1.2⟩
   by_cases hf : (fdStep c.key (s, fd)).2.left = []
   · rw [if_pos hf]
     have hr : 0 < (fdStep c.key (s, fd)).2.ref := by
      obtain ⟨m, hg⟩ := hg
      cases m with
      | zero =>
        have e : (s4, f) = _ := hg
        have e : f = (fdStep c.key (s, fd)).2 := congrArg Prod.snd e
        rw [← e]
        exact g3
      | succ m =>
        have h3 : fdOver (fdStep c.key (s, fd)).2 = false := hg.1
        unfold fdOver at h3
        rw [hf] at h3
        exact absurd h3 (by decide)
     unfold stFound
     rw [if_pos hr]
     rcases f2 with e | ⟨e1, e2, e3⟩
     · omega
     · exact .inl ⟨by rw [f3]; exact bd, by rw [f4]; omega, b0, b1, by rw [f3]; exact wd, by rw [f4]; exact il, rfl, e1, e2, by rw [f4]; exact e3⟩
   · rw [if_neg hf]
     obtain ⟨m, hg⟩ := hg
     exact .inr (h0.q f3 f4 ⟨f1 hf, hf, m, s4, f, hg, g2, g3⟩)
theorem StJ.step (h : StJ c g b s z) (t : Nat) (mo : Int) : StJ c g b (stStep t c mo (s, z)).1 (stStep t c mo (s, z)).2 := h.elim (fun h => .inl (h.step t mo)) fun h => h.step t mo
theorem StJ.goodR {t : Nat} {mo : Int} : ∀ {M : Nat} {s : AW} {z : Stm} {m : Nat} {s' : AW} {z' : Stm}, StJ c g b s z → runN stOver (stStep t c mo) M (s, z) = (m, s', z') → stOver z' = true → goodN stOver (stStep t c mo) (fun y => stPre c g y.1 y.2) M (s, z) = true
 | 0, s, z, m, s', z', h, hr, ho => by
   have e : (0, (s, z)) = (m, s', z') := hr
   have e2 : z = z' := congrArg (fun x : Nat × (AW × Stm) => x.2.2) e
   unfold goodN
   rw [e2]
   exact ho
 | M + 1, s, z, m, s', z', h, hr, ho => by
   unfold goodN
   cases hov : stOver z with
   | true => rfl
   | false =>
     rw [runN_on M (s, z) hov] at hr
     have e2 : (runN stOver (stStep t c mo) M (stStep t c mo (s, z))).2 = (s', z') := congrArg (fun x : Nat × (AW × Stm) => x.2) hr
     have hg := StJ.goodR (h.step t mo) (show runN stOver (stStep t c mo) M ((stStep t c mo (s, z)).1, (stStep t c mo (s, z)).2) = ((runN stOver (stStep t c mo) M (stStep t c mo (s, z))).1, s', z') from by
      show runN stOver (stStep t c mo) M (stStep t c mo (s, z)) = _
      rw [← e2]) ho
     rw [show stPre c g (s, z).1 (s, z).2 = true from h.pre]
     have hg : goodN stOver (stStep t c mo) (fun y => stPre c g y.1 y.2) M (stStep t c mo (s, z)) = true := hg
     rw [hg, Bool.true_and, Bool.or_true]
theorem StJ.new {T : Tab} {p : Spt} {r : Int} (h : Bd s.M) (hi : s.it.length < 1000000) (S : Sw b s T) (A : Stand1 b s.it T c.key p r) : StJ c g b s stNew :=
 .inr ⟨h, hi, S.b0, S.b1, S.wd, ⟨T, p, r, S, A⟩, .inl rfl⟩
end
end
section
structure DiS (s : AW) (T : Tab) (L : List ByteArray) (G : ByteArray → Int) (q : Nat) : Prop where
 sw : Sw 3 s T
 std : ∀ k ∈ L, ∃ p r, Stand1 3 s.it T k p r ∧ (itAt s.it r).dies = -1 ∧ (itAt s.it r).gen = G k
 only : ∀ l p r, Stand1 3 s.it T l p r → l ∈ L
 nd : L.Nodup
 cnt : s.M 6 = L.length
 tkt : s.M 0 = s.M 1
 nt : s.nt = []
 il : s.it.length ≤ q
 n0 : 0 ≤ s.n
 n1 : s.n ≤ 60 * q
def updG (G : ByteArray → Int) (k : ByteArray) (v : Int) : ByteArray → Int := fun l => if l = k then v else G l
theorem itAt_app {it : List It} {r : Int} (x : It) (h : r ≤ it.length) : itAt (it ++ [x]) r = itAt it r := by
 unfold itAt
 by_cases c : 1 ≤ r ∧ r ≤ (it.length : Int)
 · rw [if_pos ⟨c.1, by rw [List.length_append]; push_cast; omega⟩, if_pos c, List.getElem?_append_left (by omega)]
 · rw [if_neg c, if_neg]
   intro h2
   omega
theorem fdHit_len {it : List It} {r : Int} {k : ByteArray} (h : fdHit it r k = true) : r ≤ it.length := by
 have h0 := fdHit_pos h
 unfold fdHit at h
 simp only [Bool.and_eq_true, decide_eq_true_eq] at h
 cases e : it[(r - 1).toNat]? with
 | none => rw [e] at h; exact absurd h.2 Bool.false_ne_true
 | some y =>
   obtain ⟨hl, -⟩ := List.getElem?_eq_some_iff.1 e
   omega
section
variable {s s' : AW} {T : Tab} {L : List ByteArray} {G : ByteArray → Int} {q : Nat}
theorem DiS.tick (H : DiS s T L G q) : DiS (awTick s) T L G (q + 1) := by
 have hM : ∀ a, a ≠ 8 → (awTick s).M a = s.M a := fun a h => upd_other _ h
 have h0 := H.n0
 have h1 := H.n1
 have h2 := H.il
 exact ⟨H.sw.same (hM 2 (by decide)) (fun a a1 _ => hM a (by omega)) rfl, H.std, H.only, H.nd, (hM 6 (by decide)).trans H.cnt, (hM 0 (by decide)).trans (H.tkt.trans (hM 1 (by decide)).symm), H.nt, by show s.it.length ≤ _; omega, by show 0 ≤ s.n + 1; omega, by show s.n + 1 ≤ 60 * ((q + 1 : Nat) : Int); push_cast; omega⟩
theorem DiS.told (H : DiS s T L G q) (F : StF s s' (s.M 7) (s.M 6)) (hi : s'.it = s.it) (S : Sw 3 s' T) : DiS s' T L G (q + 1) := by
 have a0 := F.n0
 have a1 := F.n1
 have a2 := H.n0
 have a3 := H.n1
 have a4 := H.il
 exact ⟨S, by rw [hi]; exact H.std, by rw [hi]; exact H.only, H.nd, F.m6.trans H.cnt, by rw [F.m0, F.m1, H.tkt], F.nt.trans H.nt, by rw [hi]; omega, by omega, by push_cast; omega⟩
theorem DiS.more {T' : Tab} {i7 c6 : Int} {x : It} {p : Spt} (H : DiS s T L G q) (F : StF s s' i7 c6) (hi : s'.it = s.it ++ [x]) (S : Sw 3 s' T') (hT : T' = T.set p (fnvTag (kyH x.key), s.it.length + 1)) (A : Stand1 3 s'.it T' x.key p (s.it.length + 1))
 (hold : ∀ l u r, l ≠ x.key → Stand1 3 s.it T l u r → u ≠ p) (hd : x.dies = -1) (L' : List ByteArray) (hL : ∀ l, l ∈ L' ↔ l ∈ L ∨ l = x.key) (hn : L'.Nodup) (h6 : c6 = L'.length) : DiS s' T' L' (updG G x.key x.gen) (q + 1) := by
 have a0 := F.n0
 have a1 := F.n1
 have a2 := H.n0
 have a3 := H.n1
 have a4 := H.il
 refine ⟨S, fun k hk => ?_, fun l u r h => ?_, hn, F.m6.trans h6, by rw [F.m0, F.m1, H.tkt], F.nt.trans H.nt, by rw [hi, List.length_append, List.length_singleton]; omega, by omega, by push_cast; omega⟩
 · by_cases c : k = x.key
   · subst c
     refine ⟨p, _, A, ?_, ?_⟩
     · rw [hi, itAt_new]; exact hd
     · rw [hi, itAt_new]; unfold updG; rw [if_pos rfl]
   · rcases (hL k).1 hk with h | h
     · obtain ⟨u, r, h1, h2, h3⟩ := H.std k h
       have hne := hold k u r c h1
       have hl := fdHit_len h1.hit
       refine ⟨u, r, ⟨h1.ok, h1.tb, ?_, by rw [hi]; exact fdHit_app _ h1.hit⟩, ?_, ?_⟩
       · rw [hT, Tab.set_ne _ fun e => hne (Spt.is_eq e)]; exact h1.rf
       · rw [hi, itAt_app _ hl]; exact h2
       · rw [hi, itAt_app _ hl, h3]; unfold updG; rw [if_neg c]
     · exact absurd h c
 · by_cases e : u = p
   · subst e
     have hr : r = s.it.length + 1 := by rw [← h.rf, hT, Tab.set_same]
     subst hr
     exact (hL l).2 (.inr (fdHit_key h.hit A.hit))
   · have h1 := h.rf
     rw [hT, Tab.set_ne _ fun x => e (Spt.is_eq x)] at h1
     rcases H.sw.sl u h.ok h.tb with e1 | ⟨m, v, g, -, -⟩
     · rw [e1] at h1
       have := fdHit_pos h.hit
       have h1 : (0 : Int) = r := h1
       omega
     · have hv : v = r := g.rf.symm.trans h1
       subst hv
       have hg := fdHit_app x g.hit
       rw [← hi] at hg
       rw [fdHit_key h.hit hg]
       exact (hL m).2 (.inl (H.only m u v g))
theorem four_apart {L : List ByteArray} (hl : L.length ≤ 3) (k : Nat → ByteArray) (h : ∀ i, i < 4 → k i ∈ L) (hd : ∀ i j, i < j → j < 4 → k i ≠ k j) : False := by
 have h0 := h 0 (by decide)
 have h1 := h 1 (by decide)
 have h2 := h 2 (by decide)
 have h3 := h 3 (by decide)
 have d01 := hd 0 1 (by decide) (by decide)
 have d02 := hd 0 2 (by decide) (by decide)
 have d03 := hd 0 3 (by decide) (by decide)
 have d12 := hd 1 2 (by decide) (by decide)
 have d13 := hd 1 3 (by decide) (by decide)
 have d23 := hd 2 3 (by decide) (by decide)
 generalize k 0 = a at *
 generalize k 1 = b at *
 generalize k 2 = c at *
 generalize k 3 = d at *
 clear h hd
 match L, hl with
 | [], _ => cases h0
 | [x], _ =>
   rw [List.mem_singleton] at h0 h1
   exact d01 (h0.trans h1.symm)
 | [x, y], _ =>
   simp only [List.mem_cons, List.not_mem_nil, or_false] at h0 h1 h2
   rcases h0 with rfl | rfl <;> rcases h1 with rfl | rfl <;> rcases h2 with rfl | rfl <;> first | exact d01 rfl | exact d02 rfl | exact d12 rfl
 | [x, y, z], _ =>
   simp only [List.mem_cons, List.not_mem_nil, or_false] at h0 h1 h2 h3
   rcases h0 with rfl | rfl | rfl <;> rcases h1 with rfl | rfl | rfl <;> first | exact absurd rfl d01 | skip
   all_goals rcases h2 with rfl | rfl | rfl <;> first | exact absurd rfl d02 | exact absurd rfl d12 | skip
   all_goals rcases h3 with rfl | rfl | rfl <;> first | exact absurd rfl d03 | exact absurd rfl d13 | exact absurd rfl d23
 | _ :: _ :: _ :: _ :: _, hl => simp only [List.length_cons] at hl; omega
theorem DiS.room (H : DiS s T L G q) (hl : L.length ≤ 3) (u : Int) (q0 : 0 ≤ u) (q1 : u < fnvSize 3) : 0 ≤ twFree (s.M (plTags 3 u)) := by
 by_cases c : 0 ≤ twFree (s.M (plTags 3 u))
 · exact c
 · have hs : ∀ i : Nat, i < 4 → ∃ k r, Stand1 3 s.it T k ⟨3, u, i⟩ r := fun i hi => by
    have hok : (⟨3, u, (i : Int)⟩ : Spt).ok := ⟨by dsimp only; omega, by dsimp only; omega, q0, q1, by dsimp only; omega, by dsimp only; omega⟩
    rcases H.sw.sl ⟨3, u, i⟩ hok rfl with e | ⟨k, r, g, -, -⟩
    · have ht : twTag (s.M (plTags 3 u)) i = (T ⟨3, u, i⟩).1 := H.sw.rep.tg ⟨3, u, i⟩ hok
      rw [e] at ht
      exact absurd ht (twFree_neg (by omega) (by omega) (by omega))
    · exact ⟨k, r, g⟩
   have hs2 : ∀ i : Nat, ∃ k, i < 4 → ∃ r, Stand1 3 s.it T k ⟨3, u, i⟩ r := fun i => by
    by_cases hi : i < 4
    · obtain ⟨k, r, g⟩ := hs i hi; exact ⟨k, fun _ => ⟨r, g⟩⟩
    · exact ⟨⟨#[]⟩, fun h => absurd h hi⟩
   obtain ⟨k, hk⟩ : ∃ k : Nat → ByteArray, ∀ i, i < 4 → ∃ r, Stand1 3 s.it T (k i) ⟨3, u, i⟩ r := ⟨fun i => (hs2 i).choose, fun i => (hs2 i).choose_spec⟩
   refine (four_apart hl k (fun i hi => ?_) fun i j hij hj e => ?_).elim
   · obtain ⟨r, g⟩ := hk i hi
     exact H.only _ _ _ g
   · obtain ⟨r1, g1⟩ := hk i (by omega)
     obtain ⟨r2, g2⟩ := hk j hj
     rw [← e] at g2
     have := congrArg Spt.s (H.sw.one _ _ _ _ _ g1 g2)
     have : (i : Int) = j := this
     omega
theorem DiS.sti (H : DiS s T L G q) (hbd : Bd s.M) (hq : q < 1000000) (hl : L.length ≤ 3) (c : Clm) {g : Int} (hg : 4 ≤ g) : StJ c g 3 s stNew := by
 have hb := fnvBucket_bd (h := kyH c.key) (b := 3) (by decide) (by decide)
 have := H.il
 exact .inl (StI.new hbd (by omega) (by decide) (by decide) H.sw.wd ⟨by rw [H.cnt]; omega, H.room hl _ hb.1 hb.2⟩)
theorem DiS.stj (H : DiS s T L G q) (hbd : Bd s.M) (hq : q < 1000000) (c : Clm) (hc : c.key ∈ L) {g : Int} : StJ c g 3 s stNew := by
 obtain ⟨p, r, A, -, -⟩ := H.std _ hc
 have := H.il
 exact StJ.new hbd (by omega) H.sw A
theorem DiS.chi (H : DiS s T L G q) (hbd : Bd s.M) (hq : q < 1000000) (c : Clm) : ChI c 3 s chNew := by
 have := H.il
 exact ChI.new hbd (by omega) (by decide) (by decide) H.sw.wd
theorem epAlive_never (g w : Int) : epAlive (-1) g w = decide (g = epGen w) := by
 unfold epAlive
 simp
theorem di_new (H : DiS s T L G q) (t : Nat) (c : Clm) (hv : c.verb = 4) (hx : c.exp = 0) (hk : c.key ∉ L) (hl : L.length ≤ 3) (hi7 : 0 ≤ s.M 7) :
 ∃ m s' z' T', runN stOver (stStep t c 16) 200000 (s, stNew) = (m, s', z') ∧ stOver z' = true ∧ z'.an = 1 ∧ DiS s' T' (L ++ [c.key]) (updG G c.key (epGen (s.M 8))) (q + 1) ∧ s'.M 8 = s.M 8 := by
 have hb := fnvBucket_bd (h := kyH c.key) (b := 3) (by decide) (by decide)
 have hno : ∀ p r, ¬ Stand1 3 s.it T c.key p r := fun p r h => hk (H.only _ _ _ h)
 obtain ⟨m, s', z', p, h1, h2, h3, h4, h5, h6, h7, h8, h9, h10, -⟩ := st_news H.sw t c 16 H.tkt hno (by omega) (H.room hl _ hb.1 hb.2)
 have hcn := H.cnt
 have h6m : (s.M 6 + 1) % 18446744073709551616 = ((L ++ [c.key]).length : Int) := by rw [hcn, List.length_append, List.length_singleton]; push_cast; omega
 refine ⟨m, s', z', T.set p (fnvTag (kyH c.key), (s.it.length : Int) + 1), h2.fin (by omega) h3, h3, h4, ?_, h6.m8⟩
 refine DiS.more (x := stIt c ((s.M 7 + 1) % 18446744073709551616) (s.M 8)) H h6 h7 h8 rfl h9 (fun l u r hl hs => ?_) ?_ (L ++ [c.key]) (fun l => ?_) ?_ h6m
 · intro e
   have h := h10 l u r hs
   rw [e] at h
   have hr := h.rf
   rw [Tab.set_same] at hr
   have hr : (s.it.length : Int) + 1 = r := hr
   have := fdHit_len hs.hit
   omega
 · show epDies (s.M 8) c.exp = -1
   rw [hx]; rfl
 · rw [List.mem_append, List.mem_singleton]; exact Iff.rfl
 · refine List.nodup_append.2 ⟨H.nd, by simp, fun a ha b hb => ?_⟩
   rw [List.mem_singleton] at hb
   rw [hb]
   exact fun e => hk (e ▸ ha)
theorem di_not (H : DiS s T L G q) (t : Nat) (c : Clm) (hv : c.verb = 4) (hk : c.key ∈ L) (hg : G c.key = epGen (s.M 8)) :
 ∃ m s' z', runN stOver (stStep t c 16) 200000 (s, stNew) = (m, s', z') ∧ stOver z' = true ∧ z'.an = 2 ∧ DiS s' T L G (q + 1) ∧ s'.M 8 = s.M 8 := by
 obtain ⟨p, r, A, a1, a2⟩ := H.std _ hk
 obtain ⟨m, s', z', h1, h2, h3, h4, h5, h6, h7, h8⟩ := st_tells H.sw t c 16 H.tkt (k := 2) A (by
  unfold stDecide
  rw [a1, a2, epAlive_never, if_pos]
  exact .inl ⟨hv, decide_eq_true hg⟩)
 exact ⟨m, s', z', h2.fin (by omega) h3, h3, h4, H.told h6 h7 h8, h6.m8⟩
theorem di_repl (H : DiS s T L G q) (t : Nat) (c : Clm) (hv : c.verb = 4) (hx : c.exp = 0) (hk : c.key ∈ L) (hg : G c.key ≠ epGen (s.M 8)) :
 ∃ m s' z' T', runN stOver (stStep t c 16) 200000 (s, stNew) = (m, s', z') ∧ stOver z' = true ∧ z'.an = 1 ∧ DiS s' T' L (updG G c.key (epGen (s.M 8))) (q + 1) ∧ s'.M 8 = s.M 8 := by
 obtain ⟨p, r, A, a1, a2⟩ := H.std _ hk
 have hal : ¬ decide (G c.key = epGen (s.M 8)) = true := by rw [decide_eq_true_eq]; exact hg
 obtain ⟨m, s', z', h1, h2, h3, h4, h5, h6, h7, h8, h9⟩ := st_replaces H.sw t c 16 H.tkt A (by
  unfold stDecide
  rw [a1, a2, epAlive_never, if_neg (by rintro (⟨-, e⟩ | ⟨e, -⟩); exact hal e; omega), if_neg (by rintro ⟨e, -⟩; omega), if_neg (by rintro ⟨e, -⟩; omega)])
 refine ⟨m, s', z', T.set p (fnvTag (kyH c.key), (s.it.length : Int) + 1), h2.fin (by omega) h3, h3, h4, ?_, h6.m8⟩
 refine DiS.more (x := stIt c ((s.M 7 + 1) % 18446744073709551616) (s.M 8)) H h6 h7 h8 rfl h9 (fun l u v hl hs => ?_) ?_ L (fun l => ?_) H.nd H.cnt
 · intro e
   subst e
   have := A.rf.symm.trans hs.rf
   subst this
   exact hl (fdHit_key hs.hit A.hit)
 · show epDies (s.M 8) c.exp = -1
   rw [hx]; rfl
 · exact ⟨.inl, fun h => h.elim id fun e => by rw [e]; exact hk⟩
theorem di_touch (H : DiS s T L G q) (t : Nat) (c : Clm) (hv : c.verb = 8) (hx : c.exp = 0) (hk : c.key ∈ L) (hg : G c.key = epGen (s.M 8)) :
 ∃ m s' z' T', runN chOver (chStep t c) 200000 (s, chNew) = (m, s', z') ∧ chOver z' = true ∧ z'.an = 7 ∧ z'.nu = 0 ∧ DiS s' T' L G (q + 1) ∧ s'.M 8 = s.M 8 := by
 obtain ⟨p, r, A, a1, a2⟩ := H.std _ hk
 obtain ⟨x, hxx⟩ : ∃ x : It, x = { itAt s.it r with dies := -1 } := ⟨_, rfl⟩
 have hxk : x.key = c.key := by rw [hxx]; exact fdHit_ky A.hit
 obtain ⟨m, s', z', h1, h2, h3, h4, h5, h6, h7, h8, h9⟩ := ch_touches H.sw t c H.tkt (k := 7) (v := 0) (x := x) hxk A (fun S Z e => by
  unfold chFound
  rw [a1, a2, e, epAlive_never, if_neg (by rw [decide_eq_true hg]; decide), if_neg (by omega), if_pos hv, hx, hxx, ← a2]
  rfl)
 refine ⟨m, s', z', T.set p (fnvTag (kyH c.key), (s.it.length : Int) + 1), h2.fin (by omega) h3, h3, h4, h5, ?_, h6.m8⟩
 rw [← hxk] at h8 h9
 have hG : updG G x.key x.gen = G := by
  funext l
  unfold updG
  by_cases e : l = x.key
  · rw [if_pos e, e, hxk, ← a2, hxx]
  · rw [if_neg e]
 have := DiS.more H h6 h7 h8 rfl h9 (fun l u v hl hs => ?_) (by rw [hxx]) L (fun l => ⟨.inl, fun h => h.elim id fun e => by rw [e, hxk]; exact hk⟩) H.nd H.cnt
 · rw [hG, hxk] at this
   exact this
 · intro e
   subst e
   have := A.rf.symm.trans hs.rf
   subst this
   exact hl ((fdHit_key hs.hit A.hit).trans hxk.symm)
theorem di_dead (H : DiS s T L G q) (t : Nat) (c : Clm) (hk : c.key ∈ L) (hg : G c.key ≠ epGen (s.M 8)) :
 ∃ m s' z', runN chOver (chStep t c) 200000 (s, chNew) = (m, s', z') ∧ chOver z' = true ∧ z'.an = 4 ∧ z'.nu = 0 ∧ DiS s' T L G (q + 1) ∧ s'.M 8 = s.M 8 := by
 obtain ⟨p, r, A, a1, a2⟩ := H.std _ hk
 obtain ⟨m, s', z', h1, h2, h3, h4, h5, h6, h7, h8⟩ := ch_tells H.sw t c H.tkt (k := 4) A (fun S Z e => by
  unfold chFound
  rw [a1, a2, e, epAlive_never, if_pos (decide_eq_false hg)])
 exact ⟨m, s', z', h2.fin (by omega) h3, h3, h4, h5, H.told h6 h7 h8, h6.m8⟩
end
end
section
open Go.RowKit
theorem m_FOver (a : Addr) (w : World) : (method 635 136 (.pointer (some a)) "Over").run Tryz.prog w = .ok (439, .pointer (some a)) w := by kernel_rfl
theorem m_FStep (a : Addr) (w : World) : (method 635 136 (.pointer (some a)) "Step").run Tryz.prog w = .ok (440, .pointer (some a)) w := by kernel_rfl
def flOv (y : Flm) : Bool := decide (y.ln = 0)
def flRun (t : Nat) (d : Int) (m : Nat) (s : AW) : Nat × (AW × Flm) := runN flOv (fun z => flStep t d z.1 z.2) m (s, flNew)
theorem tkStep_n (t : Nat) (s : AW) (x : Tkm) : (tkStep t s x).1.n ≤ s.n + 1 ∧ s.n ≤ (tkStep t s x).1.n := by
 unfold tkStep
 split
 · exact ⟨Int.le_refl _, by show s.n ≤ s.n + 1; omega⟩
 · split
   · split
     · exact ⟨Int.le_refl _, by show s.n ≤ s.n + 1; omega⟩
     · exact ⟨Int.le_refl _, by show s.n ≤ s.n + 1; omega⟩
   · exact ⟨by dsimp only; omega, Int.le_refl _⟩
theorem flStep_n (t : Nat) (d : Int) (s : AW) (y : Flm) : (flStep t d s y).1.n ≤ s.n + 1 ∧ s.n ≤ (flStep t d s y).1.n := by
 unfold flStep
 split
 · exact tkStep_n t s y.tk
 · split
   · have := awFlush_n d s; dsimp only; omega
   · split
     · exact ⟨Int.le_refl _, by show s.n ≤ s.n + 1; omega⟩
     · exact ⟨by dsimp only; omega, Int.le_refl _⟩
theorem alloc_nb {O : Om} {w : World} {S : Nat → Prop} (hhi : ∀ j, O j ≠ 0 → j < w.heap.size) (cs : Array Value) (ty : TypeId) (n : Nat) (hn : n = w.heap.size) :
 Ext S O w O (w.alloc (.cells cs ty)) ∧ Ob (w.alloc (.cells cs ty)) O 0 n cs.toList ∧ ∀ g' b' ds, Ob w O g' b' ds → Ob (w.alloc (.cells cs ty)) O g' b' ds := by
 subst hn
 refine ⟨Ext.of_below hhi ((Below.refl _ _).alloc (Nat.le_refl _) _), ⟨?_, by simp, fun j u hu => cell_newA w cs ty _ rfl j u (by simpa using hu), fun j => frozen_newA w cs ty _ rfl j⟩, fun g' b' ds h => h.below ((Below.refl _ _).alloc (Nat.le_refl _) _)⟩
 by_cases h : O w.heap.size = 0
 · exact h
 · exact absurd (hhi _ h) (by omega)
theorem c_FRun (w : World) (O : Om) (B : Wb) (f : Cf) (k t : Nat) (b : FB) (d : Int) (m : Nat) (s : AW) (hP : PW w O B f s) (hX : FAt w O k b t d flNew) (hk : 10 ≤ k) (ht : t < 64) (hhi : ∀ j, O j ≠ 0 → j < w.heap.size) (n0 : 0 ≤ s.n) (n1 : s.n + m ≤ 4611686018427387904) (d0 : -9223372036854775808 ≤ d) (d1 : d ≤ 9223372036854775807) :
 Calls Tryz.prog 33 #[.pointer (some ⟨B.p, 0, none⟩), .iface 136 (.pointer (some ⟨b.X, 0, none⟩)), .int .i64 m] w (RP (SX k (k + 3)) w O (.int .i64 (flRun t d m s).1) fun W G => PW W G B f (flRun t d m s).2.1 ∧ FAt W G k b t d (flRun t d m s).2.2) := by
 refine (c_RunG flOv (fun z => flStep t d z.1 z.2) (SX k (k + 3)) (fun W G z => PW W G B f z.1 ∧ FAt W G k b t d z.2 ∧ z.2.ok) B.p b.X 136 439 440 (m_FOver _) (m_FStep _)
  (run_enter Tryz.func439 (by kernel_rfl) (by kernel_rfl)) (run_enter Tryz.func440 (by kernel_rfl) (by kernel_rfl)) ?_ ?_ (fun z => flStep_n t d z.1 z.2) w O m (s, flNew) ⟨hP, hX, (by show 1 ≤ 3; decide), fun _ => .inl rfl⟩ hhi n0 n1).mono ?_
 · rintro W G ⟨s1, y⟩ ⟨h1, h2, h3⟩
   exact c_FOver b.X _ W (h2.x.c 0 _ rfl) _ (flOver b h3.1)
 · rintro W G ⟨s1, y⟩ ⟨h1, h2, h3⟩ ho hh q0 q1
   refine (c_FStep y h1 h2 h3 hk ht hh q0 q1 d0 d1).mono ?_
   intro e w' hp
   exact ⟨_, hp.mono (fun _ _ h => h) fun W1 G1 h => ⟨h.1, h.2, flStep_ok h3⟩⟩
 · intro e w' hp
   exact hp.mono (fun _ _ h => h) fun W1 G1 h => ⟨h.1, h.2.1⟩
theorem c_does27 (w : World) (O : Om) (B : Wb) (f : Cf) (k t : Nat) (d : Int) (s : AW) (hP : PW w O B f s) (hk : 10 ≤ k) (ht : t < 64) (hhi : ∀ j, O j ≠ 0 → j < w.heap.size) (n0 : 0 ≤ s.n) (n1 : s.n + 99 ≤ 4611686018427387904) (d0 : -9223372036854775808 ≤ d) (d1 : d ≤ 9223372036854775807) (hov : (flRun t d 99 s).2.2.ln = 0) :
 Calls Tryz.prog 19 #[.pointer (some ⟨B.p, 0, none⟩), .int .i64 t, .int .i64 d] w (RP (SX k (k + 4)) w O (.tuple #[anV (flRun t d 99 s).2.2.an, .int .u64 (flRun t d 99 s).2.2.ep, .int .i64 (flRun t d 99 s).1]) fun W G => PW W G B f (flRun t d 99 s).2.1) := by
 have HP := Lib.hid hP
 have HH := Lib.hid hhi
 obtain ⟨z, hz⟩ : ∃ z, z = flRun t d 99 s := ⟨_, rfl⟩
 rw [← hz] at hov ⊢
 have HOV := Lib.hid hov
 have HZ := Lib.hid hz
 clear hP hhi hov hz
 obtain ⟨O0, e0, r0, -⟩ := alloc_ob HH.out (k + 4) #[.int .u8 0, .int .u64 0, .string ⟨#[]⟩, .string ⟨#[]⟩, .int .u32 0, .int .u64 0, .int .i64 0, .int .i64 0] 36 _ rfl
 go_enter Tryz.func19, Tryz.ntmps19
 go_wp2_with fail
 refine (c_NewFlush _ O0 k t d hk ht e0.hi).mono ?_
 rintro e w1 ⟨b, rfl, O1, E1, X1⟩
 have P1 := (HP.out.ext e0 (by omega) (by omega) (by omega) (by omega)).ext E1 (by omega) (by omega) (by omega) (by omega)
 have r1 := r0.ext E1 (by omega)
 have E01 : Ext (SX k (k + 4)) O w O1 w1 := (e0.mono fun t _ h => .inr (by omega)).trans (E1.mono fun t _ h => .inr (by omega))
 have HE := Lib.hid E01
 have HR := Lib.hid r1
 have HF := Lib.hid (c_FRun w1 O1 B f k t b d 99 s P1 X1 hk ht E1.hi n0 n1 d0 d1)
 rw [← HZ.out] at HF
 clear e0 r0 P1 r1 E01 E1 X1
 go_wp2_with fail
 refine (HF.out).mono ?_
 rintro e w2 ⟨rfl, O2, E2, P2, X2⟩
 have HE2 := Lib.hid (HE.out.trans (E2.mono fun t _ h => SX.mono (by omega) (by omega) h))
 have R2 := Lib.hid (HR.out.ext E2 (SX.not (by omega) (by omega)))
 have HP2 := Lib.hid P2
 have hx : Ob w2 O2 k b.X (flCs .nilFunc z.2.2.an z.2.2.ep z.2.2.pt) := by
  have := X2.x
  rw [HOV.out] at this
  exact this
 have HG := Lib.hid (c_FGot w2 O2 k b.X _ _ _ hx)
 clear E2 P2 X2 hx HF HE HR
 go_wp2_with fail
 refine (HG.out).mono ?_
 rintro e w3 ⟨rfl, hb3⟩
 have HE3 := Lib.hid (HE2.out.below hb3)
 have R3 := Lib.hid (R2.out.below hb3)
 have HP3 := Lib.hid (HP2.out.below HE2.out.hi hb3)
 obtain ⟨e4, n4, k4⟩ := alloc_nb (S := SX k (k + 4)) HE3.out.hi #[.int .u8 z.2.2.an, .int .u64 0, .string ⟨#[]⟩, .string ⟨#[]⟩, .int .u32 0, .int .u64 0, .int .i64 0, .int .i64 0] 36 _ rfl
 have R4 := Lib.hid (k4 _ _ _ R3.out)
 have g0 := R4.out.c 0 _ rfl
 have g1 := R4.out.c 1 _ rfl
 have g2 := R4.out.c 2 _ rfl
 have g3 := R4.out.c 3 _ rfl
 have g4 := R4.out.c 4 _ rfl
 have g5 := R4.out.c 5 _ rfl
 have g6 := R4.out.c 6 _ rfl
 have g7 := R4.out.c 7 _ rfl
 have gf := R4.out.f
 have hE4 := Lib.hid (HE3.out.trans e4)
 have hP4 := Lib.hid (HP3.out.below HE3.out.hi ((Below.refl _ _).alloc (Nat.le_refl _) (.cells #[.int .u8 z.2.2.an, .int .u64 0, .string ⟨#[]⟩, .string ⟨#[]⟩, .int .u32 0, .int .u64 0, .int .i64 0, .int .i64 0] 36)))
 unfold anV
 clear e4 n4 k4 hb3 HG HE2 R2 HP2 HE3 R3 HP3
 go_wp2
 have R5 := (((((((R4.out.set 0 (.int .u8 z.2.2.an) (by simp)).set 1 (.int .u64 0) (by simp)).set 2 (.string ⟨#[]⟩) (by simp)).set 3 (.string ⟨#[]⟩) (by simp)).set 4 (.int .u32 0) (by simp)).set 5 (.int .u64 0) (by simp)).set 6 (.int .i64 0) (by simp)).set 7 (.int .i64 0) (by simp)
 have y0 := R5.c 0 _ rfl
 have y1 := R5.c 1 _ rfl
 have y2 := R5.c 2 _ rfl
 have y3 := R5.c 3 _ rfl
 have y4 := R5.c 4 _ rfl
 have y5 := R5.c 5 _ rfl
 have y6 := R5.c 6 _ rfl
 have y7 := R5.c 7 _ rfl
 have hb : ∀ (W : World) (j : Nat) (v : Value) (cs : List Value), j < cs.length → Me k (k + 4) w O W O2 B f z.2.1 (k + 4) w.heap.size cs → Me k (k + 4) w O (W.setCell ⟨w.heap.size, j, none⟩ v) O2 B f z.2.1 (k + 4) w.heap.size (cs.set j v) :=
  fun W j v cs hj h => h.set (by omega) (by omega) (by omega) j v hj
 have m0 : Me k (k + 4) w O _ O2 B f z.2.1 (k + 4) w.heap.size _ := ⟨hE4.out, hP4.out, R4.out⟩
 have m8 := hb _ 7 (.int .i64 0) _ (by simp) (hb _ 6 (.int .i64 0) _ (by simp) (hb _ 5 (.int .u64 0) _ (by simp) (hb _ 4 (.int .u32 0) _ (by simp) (hb _ 3 (.string ⟨#[]⟩) _ (by simp) (hb _ 2 (.string ⟨#[]⟩) _ (by simp) (hb _ 1 (.int .u64 0) _ (by simp) (hb _ 0 (.int .u8 z.2.2.an) _ (by simp) m0)))))))
 refine bodyPost_ret (v := .tuple #[anV z.2.2.an, .int .u64 z.2.2.ep, .int .i64 z.1]) (by simp [results, Tryz.results19, go_sem, anV, y0, y1, y2, y3, y4, y5, y6, y7]) rfl ⟨rfl, O2, m8.e, m8.p⟩
def l27a : Nat × (AW × Flm) := flRun 3 0 99 (aw0 2)
def l27b : Nat × (AW × Flm) := flRun 3 3 99 l27a.2.1
def l27t (n : Nat) : AW := Nat.rec l27b.2.1 (fun _ s => awTick s) n
def l27s : AW := awStore 8 (epPut 5 0 65535) (l27t 3)
def l27c : Nat × (AW × Flm) := flRun 3 0 99 l27s
theorem l27_ov : l27a.2.2.ln = 0 ∧ l27b.2.2.ln = 0 ∧ l27c.2.2.ln = 0 := by decide
theorem l27_f : l27a.1 = 4 ∧ l27a.2.2.an = 10 ∧ l27a.2.1.M 8 = 281474976710656 ∧ l27b.2.2.an = 10 ∧ epAt (l27b.2.1.M 8) = 3 ∧ epGen ((l27t 3).M 8) = 2 ∧ l27c.2.2.an = 5 ∧ l27c.2.2.ep = epPut 5 0 65535 ∧ l27c.1 = 4 := by decide
theorem l27_n : (0 ≤ l27a.2.1.n ∧ l27a.2.1.n ≤ 1000) ∧ (0 ≤ l27b.2.1.n ∧ l27b.2.1.n ≤ 1000) ∧ (∀ k, k ≤ 3 → 0 ≤ (l27t k).n ∧ (l27t k).n ≤ 1000) ∧ (0 ≤ l27s.n ∧ l27s.n ≤ 1000) := by decide
theorem c_does27E (w : World) (O : Om) (B : Wb) (f : Cf) (k t : Nat) (d : Int) (s : AW) (n : Nat) (s' : AW) (an ep : Int) (h : (flRun t d 99 s).1 = n ∧ (flRun t d 99 s).2.1 = s' ∧ (flRun t d 99 s).2.2.an = an ∧ (flRun t d 99 s).2.2.ep = ep ∧ (flRun t d 99 s).2.2.ln = 0) (hP : PW w O B f s) (hk : 10 ≤ k) (ht : t < 64) (hhi : ∀ j, O j ≠ 0 → j < w.heap.size) (n0 : 0 ≤ s.n) (n1 : s.n + 99 ≤ 4611686018427387904) (d0 : -9223372036854775808 ≤ d) (d1 : d ≤ 9223372036854775807) :
 Calls Tryz.prog 19 #[.pointer (some ⟨B.p, 0, none⟩), .int .i64 t, .int .i64 d] w (RP (SX k (k + 4)) w O (.tuple #[.agg #[.int .u8 an, .int .u64 0, .string ⟨#[]⟩, .string ⟨#[]⟩, .int .u32 0, .int .u64 0, .int .i64 0, .int .i64 0], .int .u64 ep, .int .i64 n]) fun W G => PW W G B f s') := by
 obtain ⟨rfl, rfl, rfl, rfl, h5⟩ := h
 exact c_does27 w O B f k t d s hP hk ht hhi n0 n1 d0 d1 h5
def AnOb (w : World) (O : Om) (b : Nat) (an : Int) : Prop := Ob w O 0 b [.int .u8 an, .int .u64 0, .string ⟨#[]⟩, .string ⟨#[]⟩, .int .u32 0, .int .u64 0, .int .i64 0, .int .i64 0]
theorem AnOb.ext {S : Nat → Prop} {O O' : Om} {w w' : World} {b : Nat} {an : Int} (h : AnOb w O b an) (e : Ext S O w O' w') (hs : ¬ S 0) : AnOb w' O' b an := Ob.ext h e hs
theorem AnOb.new {S : Nat → Prop} {O : Om} {w : World} (hhi : ∀ j, O j ≠ 0 → j < w.heap.size) (an : Int) (ty : TypeId) :
 Ext S O w O (w.alloc (.cells #[.int .u8 an, .int .u64 0, .string ⟨#[]⟩, .string ⟨#[]⟩, .int .u32 0, .int .u64 0, .int .i64 0, .int .i64 0] ty)) ∧ AnOb (w.alloc (.cells #[.int .u8 an, .int .u64 0, .string ⟨#[]⟩, .string ⟨#[]⟩, .int .u32 0, .int .u64 0, .int .i64 0, .int .i64 0] ty)) O w.heap.size an := by
 obtain ⟨e3, n3, -⟩ := alloc_nb (S := S) hhi #[.int .u8 an, .int .u64 0, .string ⟨#[]⟩, .string ⟨#[]⟩, .int .u32 0, .int .u64 0, .int .i64 0, .int .i64 0] ty w.heap.size rfl
 exact ⟨e3, n3⟩
theorem c_lives27 (w : World) : Calls Tryz.prog 17 #[] w fun e w' => e = .returned (.bool true) ∧ Below w.heap.size w w' := by
 have OV := Lib.hid l27_ov
 have FF := Lib.hid l27_f
 have NN := Lib.hid l27_n
 go_enter Tryz.func17, Tryz.ntmps17
 go_wp2_with fail
 refine (c_WorldP 2 w (by decide) (by decide)).mono ?_
 rintro e w1 ⟨B, O1, rfl, hP, hE⟩
 have P1 := Lib.hid hP
 have E1 := Lib.hid hE
 clear hP hE
 go_wp2_with fail
 refine (c_does27E w1 O1 B _ 10 3 0 (aw0 2) 4 l27a.2.1 10 l27a.2.2.ep ⟨FF.out.1, rfl, FF.out.2.1, rfl, OV.out.1⟩ P1.out (by decide) (by decide) E1.out.hi (by decide) (by decide) (by decide) (by decide)).mono ?_
 rintro e w2 ⟨rfl, O2, e2, p2⟩
 obtain ⟨e3, n3⟩ := AnOb.new (S := SX 10 14) e2.hi 10 36
 have E3 := Lib.hid (E1.out.ext (e2.trans e3))
 have P3 := Lib.hid (p2.below e2.hi ((Below.refl _ _).alloc (Nat.le_refl _) (.cells #[.int .u8 10, .int .u64 0, .string ⟨#[]⟩, .string ⟨#[]⟩, .int .u32 0, .int .u64 0, .int .i64 0, .int .i64 0] 36)))
 have A3 := Lib.hid n3
 have hp2 := p2.wo.c0
 have hpl := p2.wo.lt
 have HK3 := Lib.hid (c_Peek 8 P3.out.ce (by decide) (by decide))
 clear e2 p2 e3 n3
 go_wp2_with fail
 refine (HK3.out).mono ?_
 rintro e w' ⟨rfl, rfl⟩
 clear HK3
 go_wp2_with fail
 refine (c_does27E _ O2 B _ 10 3 3 l27a.2.1 4 l27b.2.1 10 l27b.2.2.ep ⟨by decide, rfl, FF.out.2.2.2.1, rfl, OV.out.2.1⟩ P3.out (by decide) (by decide) E3.out.hi NN.out.1.1 (by have := NN.out.1.2; omega) (by decide) (by decide)).mono ?_
 rintro e w4 ⟨rfl, O4, e4, p4⟩
 have A4 := Lib.hid (A3.out.ext e4 (sx0 (by decide)))
 obtain ⟨e5, n5⟩ := AnOb.new (S := SX 10 14) e4.hi 10 36
 have E5 := Lib.hid (E3.out.ext (e4.trans e5))
 have P5 := Lib.hid (p4.below e4.hi ((Below.refl _ _).alloc (Nat.le_refl _) (.cells #[.int .u8 10, .int .u64 0, .string ⟨#[]⟩, .string ⟨#[]⟩, .int .u32 0, .int .u64 0, .int .i64 0, .int .i64 0] 36)))
 have A5 := Lib.hid (A4.out.ext e5 (sx0 (by decide)))
 have B5 := Lib.hid n5
 have hp5 := P5.out.wo.c0
 have hb5 := P5.out.bd 8
 have HK5 := Lib.hid (c_Peek 8 P5.out.ce (by decide) (by decide))
 clear e4 p4 e5 n5 hp2 hpl A3 A4
 go_wp2_with fail
 refine (HK5.out).mono ?_
 rintro e w' ⟨rfl, rfl⟩
 go_wp2_with fail
 refine (c_EpAt _ _ hb5.1 (by omega)).mono ?_
 rintro e w6 ⟨rfl, hb6⟩
 rw [FF.out.2.2.2.2.1]
 have E6 := Lib.hid (E5.out.ext (Ext.of_below (S := SW) E5.out.hi hb6))
 have P6 := Lib.hid (P5.out.below E5.out.hi hb6)
 have A6 := Lib.hid (A5.out.ext (Ext.of_below (S := SW) E5.out.hi hb6) sw0)
 have B6 := Lib.hid (B5.out.ext (Ext.of_below (S := SW) E5.out.hi hb6) sw0)
 clear hb6 hp5 hb5 HK5
 go_wp2_with fail
 go_loopw [10] (fun i wr => ∃ (k : Nat) (G : Om), k ≤ 3 ∧ i = .int .i64 k ∧ Env w G wr ∧ PW wr G B ⟨2, 8, 3, 1, 16⟩ (l27t k) ∧ AnOb wr G w2.heap.size 10 ∧ AnOb wr G w4.heap.size 10) (fun i _ => 3 - (intOf i).toNat)
 case atStart => exact ⟨0, O4, by omega, rfl, E6.out, P6.out, A6.out, B6.out⟩
 case round =>
  obtain ⟨k, G, hk, rfl, hE, hP, hA, hB⟩ := hrel
  have HE := Lib.hid hE
  have HP := Lib.hid hP
  have HA := Lib.hid hA
  have HB := Lib.hid hB
  clear hE hP hA hB
  by_cases hk2 : k < 3
  · have hn := NN.out.2.2.1 k (by omega)
    go_wp2_with fail
    refine (c_WTick wr G B _ (l27t k) HP.out HE.out.hi hn.1 (by omega)).mono ?_
    rintro e w7 ⟨rfl, O7, e7, p7⟩
    have H7 : Hid (Env w O7 w7 ∧ PW w7 O7 B ⟨2, 8, 3, 1, 16⟩ (l27t (k + 1)) ∧ AnOb w7 O7 w2.heap.size 10 ∧ AnOb w7 O7 w4.heap.size 10) := Lib.hid ⟨HE.out.ext e7, p7, HA.out.ext e7 sw0, HB.out.ext e7 sw0⟩
    clear e7 p7 hn
    go_wp2
    go_roundw
    case rel => exact ⟨k + 1, O7, by omega, by go_num, H7.out⟩
    case measure => simp [intOf]; omega
  · obtain rfl : k = 3 := by omega
    have hp0 := HP.out.wo.c0
    have hb8 := HP.out.bd 8
    have hn := NN.out.2.2.1 3 (by omega)
    have HK8 := Lib.hid (c_Peek 8 HP.out.ce (by decide) (by decide))
    go_wp2_with fail
    refine (HK8.out).mono ?_
    rintro e w' ⟨rfl, rfl⟩
    go_wp2_with fail
    refine (c_Gen _ _ hb8.1 (by omega)).mono ?_
    rintro e w8 ⟨rfl, hb8'⟩
    rw [FF.out.2.2.2.2.2.1]
    have E8 := Lib.hid (HE.out.ext (Ext.of_below (S := SW) HE.out.hi hb8'))
    have P8 := Lib.hid (HP.out.below HE.out.hi hb8')
    have A8 := Lib.hid (HA.out.ext (Ext.of_below (S := SW) HE.out.hi hb8') sw0)
    have B8 := Lib.hid (HB.out.ext (Ext.of_below (S := SW) HE.out.hi hb8') sw0)
    clear hp0 hb8 hb8' HK8
    have hp0 := P8.out.wo.c0
    have hpl := P8.out.wo.lt
    obtain ⟨eput, hep⟩ : ∃ eput, eput = epPut 5 0 65535 := ⟨_, rfl⟩
    have heb := epPut_bd 5 0 65535
    have HEP := Lib.hid hep
    rw [← hep] at heb
    clear hep
    go_wp2_with fail
    go_region_held3 (fun w' => w'.cell? ⟨B.p, 0, none⟩ = some (.pointer (some ⟨B.c, 0, none⟩))) (go_keep)
     (first
       | (go_at_call 51; refine (c_Put 5 0 65535 _ (by decide) (by decide) (by decide) (by decide) (by decide) (by decide)).mono ?_; rintro e w9 ⟨rfl, hb9⟩
          rw [← HEP.out]
          have hbx := (Below.refl _ _).drew.trans hb9
          have E9 := Lib.hid (E8.out.ext (Ext.of_below (S := SW) E8.out.hi hbx))
          have P9 := Lib.hid (P8.out.below E8.out.hi hbx)
          have A9 := Lib.hid (A8.out.ext (Ext.of_below (S := SW) E8.out.hi hbx) sw0)
          have B9 := Lib.hid (B8.out.ext (Ext.of_below (S := SW) E8.out.hi hbx) sw0)
          have r9 := P9.out.wo.c0
          clear hb9 hbx)
       | (go_at_call 50
          refine (c_StoreP 8 eput P9.out E9.out.hi (by decide) (by decide) heb.1 (by omega) hn.1 (by omega)).mono ?_
          rintro e w10 ⟨rfl, O10, e10, p10⟩
          have E10 := Lib.hid (E9.out.ext e10)
          have A10 := Lib.hid (A9.out.ext e10 sw0)
          have B10 := Lib.hid (B9.out.ext e10 sw0)
          have P10 : Hid (PW w10 O10 B ⟨2, 8, 3, 1, 16⟩ l27s) := Lib.hid (by rw [HEP.out] at p10; exact p10)
          have r10 := P10.out.wo.c0
          clear e10 p10))
    all_goals
     clear r10 r9 hp0
     go_wp2_with fail
     refine (c_does27E _ O10 B _ 10 3 0 l27s 4 l27c.2.1 5 eput ⟨FF.out.2.2.2.2.2.2.2.2, rfl, FF.out.2.2.2.2.2.2.1, by rw [HEP.out]; exact FF.out.2.2.2.2.2.2.2.1, OV.out.2.2⟩ P10.out (by decide) (by decide) E10.out.hi NN.out.2.2.2.1 (by have := NN.out.2.2.2.2; omega) (by decide) (by decide)).mono ?_
     rintro e w11 ⟨rfl, O11, e11, p11⟩
     obtain ⟨e12, n12⟩ := AnOb.new (S := SX 10 14) e11.hi 5 36
     have E12 := Lib.hid (E10.out.ext (e11.trans e12))
     have a12 := ((A10.out.ext e11 (sx0 (by decide))).ext e12 (sx0 (by decide))).c 0 _ rfl
     have b12 := ((B10.out.ext e11 (sx0 (by decide))).ext e12 (sx0 (by decide))).c 0 _ rfl
     have d12 := n12.c 0 _ rfl
     have HFF := Lib.hid FF.out.2.2.1
     clear e11 p11 e12 n12
     rw [HFF.out]
     go_wp2_with fail
     refine (c_Put 5 0 65535 _ (by decide) (by decide) (by decide) (by decide) (by decide) (by decide)).mono ?_
     rintro e w13 ⟨rfl, hb13⟩
     rw [← HEP.out]
     have HB := Lib.hid (E12.out.bel.trans (hb13.mono E12.out.bel.size))
     clear hb13 a12 b12 d12
     go_wp2
     go_ret
     exact ⟨rfl, HB.out⟩
end
section
def epDi (d : Int) (k : Nat) : Int := if (k : Int) < d then 16777216 * d + k else 281474976710656 + k
theorem epDi_0 (d : Int) (hd : d ≤ 60) : epFlush 0 d = epDi d 0 := by
 unfold epFlush epDi
 rw [if_neg (by decide)]
 by_cases h : d < 1
 · rw [if_pos h, if_neg (by push_cast; omega)]
   unfold epPut epNow epGen
   omega
 · have e : epNow 0 = 0 := rfl
   rw [if_neg h, e, if_pos (show d < 16777215 - 0 by omega), if_pos (show ((0 : Nat) : Int) < d by push_cast; omega)]
   unfold epPut epGen
   omega
theorem epDi_now (d : Int) (k : Nat) (hd : d ≤ 60) (hk : k ≤ 1000) : epNow (epDi d k) = k ∧ epAt (epDi d k) = (if (k : Int) < d then d else 0) ∧ epGen (epDi d k) = (if (k : Int) < d then 0 else 1) := by
 unfold epDi
 by_cases h : (k : Int) < d
 · rw [if_pos h, if_pos h, if_pos h]
   unfold epNow epAt epGen
   omega
 · rw [if_neg h, if_neg h, if_neg h]
   unfold epNow epAt epGen
   omega
theorem epDi_tick (d : Int) (k : Nat) (hd : d ≤ 60) (hk : k ≤ 1000) : epTick (epDi d k) = epDi d (k + 1) := by
 obtain ⟨h1, h2, h3⟩ := epDi_now d k hd hk
 unfold epTick epDue epTickNow
 rw [h1, h2, h3, if_pos (show (k : Int) < 16777215 by omega)]
 by_cases h : (k : Int) < d
 · rw [if_pos h, if_pos h]
   by_cases h' : (k : Int) + 1 < d
   · rw [if_neg (by rw [decide_eq_true_eq]; omega)]
     unfold epPut epDi
     rw [if_pos (by push_cast; omega)]
     push_cast
     omega
   · rw [if_pos (by rw [decide_eq_true_eq]; omega)]
     unfold epPut epDi
     rw [if_pos (show (0 : Int) < 65535 by decide), if_neg (show ¬ ((k + 1 : Nat) : Int) < d by push_cast; omega)]
     push_cast
     omega
 · rw [if_neg h, if_neg h, if_neg (by rw [decide_eq_true_eq]; omega)]
   unfold epPut epDi
   rw [if_neg (by push_cast; omega)]
   push_cast
   omega
theorem fl_run (t : Nat) (d : Int) (s : AW) (h : s.M 0 = s.M 1) (hok : epFlushOk (s.M 8) = true) :
 flRun t d 99 s = (4, awGive (awFlush d (awServed t (awLoad 1 (awDraw t s)))), ⟨0, ⟨0, s.M 0, true⟩, 10, s.M 8, s.n + 3⟩) := by
 have hm : (awDraw t s).M 1 = s.M 0 := by show upd s.M 0 ((s.M 0 + 1) % 18446744073709551616) 1 = _; rw [upd_other _ (by decide), h]
 have h8 : (awServed t (awLoad 1 (awDraw t s))).M 8 = s.M 8 := by show upd s.M 0 ((s.M 0 + 1) % 18446744073709551616) 8 = _; rw [upd_other _ (by decide)]
 have hk : tkStep t (awDraw t s) ⟨2, s.M 0, true⟩ = (awServed t (awLoad 1 (awDraw t s)), ⟨0, s.M 0, true⟩) := by
  unfold tkStep
  rw [if_neg (show ¬ (2 : Nat) = 1 by decide), if_pos rfl]
  rw [if_pos (by rw [hm]; exact beq_self_eq_true _)]
 have e1 : flStep t d s flNew = (awDraw t s, ⟨1, ⟨2, s.M 0, true⟩, 0, 0, 0⟩) := rfl
 have e2 : flStep t d (awDraw t s) ⟨1, ⟨2, s.M 0, true⟩, 0, 0, 0⟩ = (awServed t (awLoad 1 (awDraw t s)), ⟨2, ⟨0, s.M 0, true⟩, 0, 0, 0⟩) := by
  unfold flStep
  rw [if_pos rfl, hk]
  rfl
 have e3 : ∀ S, flStep t d S ⟨2, ⟨0, s.M 0, true⟩, 0, 0, 0⟩ = (awFlush d S, ⟨3, ⟨0, s.M 0, true⟩, anFlush (S.M 8), S.M 8, S.n + 1⟩) := fun S => rfl
 have e4 : ∀ S a e p, flStep t d S ⟨3, ⟨0, s.M 0, true⟩, a, e, p⟩ = (awGive S, ⟨0, ⟨0, s.M 0, true⟩, a, e, p⟩) := fun S a e p => rfl
 have ha : anFlush (s.M 8) = 10 := by unfold anFlush; rw [if_pos hok]
 have hn : (awServed t (awLoad 1 (awDraw t s))).n + 1 = s.n + 3 := by show s.n + 1 + 1 + 1 = s.n + 3; omega
 have g : Gos flOv (fun z => flStep t d z.1 z.2) 4 (s, flNew) (awGive (awFlush d (awServed t (awLoad 1 (awDraw t s)))), ⟨0, ⟨0, s.M 0, true⟩, 10, s.M 8, s.n + 3⟩) := by
  refine ⟨rfl, ?_⟩
  dsimp only
  rw [e1]
  refine ⟨rfl, ?_⟩
  dsimp only
  rw [e2]
  refine ⟨rfl, ?_⟩
  dsimp only
  rw [e3, h8, ha, hn]
  refine ⟨rfl, ?_⟩
  dsimp only
  rw [e4]
  rfl
 unfold flRun
 exact g.fin (by decide) rfl
theorem di_flush {s : AW} {T : Tab} {L : List ByteArray} {G : ByteArray → Int} {q : Nat} (H : DiS s T L G q) (t : Nat) (d : Int) (hok : epFlushOk (s.M 8) = true) :
 (flRun t d 99 s).1 = 4 ∧ (flRun t d 99 s).2.2.an = 10 ∧ (flRun t d 99 s).2.2.ln = 0 ∧ DiS (flRun t d 99 s).2.1 T L G (q + 1) ∧ (flRun t d 99 s).2.1.M 8 = epFlush (s.M 8) d := by
 rw [fl_run t d s H.tkt hok]
 obtain ⟨s2, hs2⟩ : ∃ x, x = awServed t (awLoad 1 (awDraw t s)) := ⟨_, rfl⟩
 have h2 : s2.M = upd s.M 0 ((s.M 0 + 1) % 18446744073709551616) := by rw [hs2]; rfl
 have h28 : s2.M 8 = s.M 8 := by rw [h2, upd_other _ (by decide)]
 have h2n : s2.n = s.n + 2 := by rw [hs2]; show s.n + 1 + 1 = s.n + 2; omega
 have h2i : s2.it = s.it := by rw [hs2]; rfl
 have h2t : s2.nt = s.nt := by rw [hs2]; rfl
 rw [← hs2]
 have ef : awFlush d s2 = ⟨upd s2.M 8 (epFlush (s2.M 8) d), s2.n + 1, ⟨3, 8, s2.M 8, epFlush (s2.M 8) d⟩, s2.tk, s2.ho, s2.it, s2.nt⟩ := by unfold awFlush; rw [if_pos (by rw [h28]; exact hok)]
 have h3 : (awGive (awFlush d s2)).M = upd (upd s2.M 8 (epFlush (s.M 8) d)) 1 ((s.M 1 + 1) % 18446744073709551616) := by
  rw [ef]
  show upd (upd s2.M 8 (epFlush (s2.M 8) d)) 1 ((upd s2.M 8 (epFlush (s2.M 8) d) 1 + 1) % 18446744073709551616) = _
  rw [h28, upd_other (M := s2.M) _ (show (1 : Int) ≠ 8 by decide), show s2.M 1 = s.M 1 by rw [h2, upd_other _ (by decide)]]
 have lo : ∀ a, a ≠ 0 → a ≠ 1 → a ≠ 8 → (awGive (awFlush d s2)).M a = s.M a := fun a a0 a1 a8 => by
  rw [h3, upd_other _ a1, upd_other _ a8, h2, upd_other _ a0]
 have hi : (awGive (awFlush d s2)).it = s.it := by rw [ef]; exact h2i
 have b0 := H.n0
 have b1 := H.n1
 have b2 := H.il
 refine ⟨rfl, rfl, rfl, ⟨H.sw.same (lo 2 (by decide) (by decide) (by decide)) (fun a a1 _ => lo a (by omega) (by omega) (by omega)) hi, by rw [hi]; exact H.std, by rw [hi]; exact H.only, H.nd, (lo 6 (by decide) (by decide) (by decide)).trans H.cnt, ?_, ?_, by rw [hi]; omega, ?_, ?_⟩, ?_⟩
 · rw [h3, upd_same, upd_other _ (by decide), upd_other _ (by decide), h2, upd_same, H.tkt]
 · rw [ef]
   show s2.nt = []
   rw [h2t]
   exact H.nt
 · rw [ef]
   show 0 ≤ s2.n + 1 + 1
   omega
 · rw [ef]
   show s2.n + 1 + 1 ≤ 60 * ((q + 1 : Nat) : Int)
   push_cast
   omega
 · show (awGive (awFlush d s2)).M 8 = _
   rw [h3, upd_other _ (by decide), upd_same]
end
end Go.Proofs.YtifkfhnbkjkakaaGreatDoor
