/- A Move by itself, plain: what becomes of one slot. A Move by itself, plain: its four slots; what it notes. MovesLost, plain: what a Move by itself of a filled bucket comes to, where the new table is full, or empty. MovesAll, plain: a Move by itself of a bucket of a filled old table into the new one. MovesLost, plain: the world as the Move begins. MovesAll: the world at first; what a table has behind a bucket was emptied; the configuration changed. -/
import Derived.Test.YtfnmdafpdcgcmaaGreatZY
import Derived.Test.YtfnmdafpdcgcmaaGreatZ5
import Derived.Test.YtfnmdafpdcgcmaaGreatZM
import Derived.Test.YtfnmdafpdcgcmaaGreatZL
import Derived.Test.YtfnmdafpdcgcmaaGreatZS
namespace Go.Proofs.YtfnmdafpdcgcmaaGreat
set_option linter.unusedSimpArgs false
section
set_option linter.unusedVariables false
open Go.RowKit
section
variable {lost now tag ref mo : Int} {p d : Spt} {rm : Rmm} {m : List Int} {o u : Otm}
theorem mv_room : ∀ (n : Nat) (s s' : AW) (y y' : Rmm) (z : Mvm), z.ln = 3 → z.rm = y → n ≠ 0 → Gos rmE (rmStep mo) n (s, y) (s', y') → y'.ln = 0 →
 Gos mvOver (mvStep mo) n (s, z) (s', if y'.is = true then ⟨4, z.lost, z.now, z.p, z.tag, z.ref, y', y'.p, mk2 z.p y'.p, ⟨0, 0⟩, ptNew z.tag z.ref⟩ else ⟨8, z.lost, z.now, z.p, z.tag, z.ref, y', sp20, [z.p.ver], ⟨0, 0⟩, z.u⟩)
 | 0, _, _, _, _, _, _, _, h, _, _ => absurd rfl h
 | 1, s, s', y, y', z, ln, hy, _, g, l0 => by
   have e : rmStep mo (s, y) = (s', y') := (show (s', y') = rmStep mo (s, y) from g.2).symm
   refine Gos.one (by unfold mvOver; dsimp only; rw [ln]; rfl) ?_
   rw [mvStep_3 _ _ _ ln, hy, e]
   dsimp only
   rw [if_pos l0]
 | n + 2, s, s', y, y', z, ln, hy, _, g, l0 => by
   obtain ⟨g1, g2⟩ := g
   have h1 : (rmStep mo (s, y)).2.ln ≠ 0 := fun e => by
    have := g2.1
    unfold rmE at this
    rw [e] at this
    cases this
   refine ⟨by unfold mvOver; dsimp only; rw [ln]; rfl, ?_⟩
   rw [mvStep_3 _ _ _ ln, hy, if_neg h1]
   exact mv_room (n + 1) (rmStep mo (s, y)).1 s' (rmStep mo (s, y)).2 y' ⟨3, z.lost, z.now, z.p, z.tag, z.ref, (rmStep mo (s, y)).2, z.d, z.m, z.o, z.u⟩ rfl rfl (by omega) g2 l0
theorem mv_marks4 : ∀ (l : List Int) (s : AW), l ≠ [] → ∃ s', Gos mvOver (mvStep mo) l.length (s, ⟨4, lost, now, p, tag, ref, rm, d, l, o, u⟩) (s', ⟨5, lost, now, p, tag, ref, rm, d, [], o, u⟩) ∧ s'.M = addL l s.M ∧ Kp s s'
 | [], s, h => absurd rfl h
 | [a], s, _ => by
   refine ⟨awAdd a 1 s, ⟨rfl, ?_⟩, rfl, Kp.add _ _ _⟩
   show (_, _) = mvStep mo _
   rw [mvStep_4 _ _ _ rfl]
   rfl
 | a :: b :: l, s, _ => by
   obtain ⟨s', g, e, kp⟩ := mv_marks4 (b :: l) (awAdd a 1 s) (by simp)
   refine ⟨s', ⟨rfl, ?_⟩, e, (Kp.add _ _ _).trans kp⟩
   rw [mvStep_4 _ _ _ rfl]
   exact g
theorem mv_marks7 : ∀ (l : List Int) (s : AW), l ≠ [] → ∃ s', Gos mvOver (mvStep mo) l.length (s, ⟨7, lost, now, p, tag, ref, rm, d, l, o, u⟩) (s', mvNext ⟨7, lost, now, p, tag, ref, rm, d, [], o, u⟩) ∧ s'.M = addL l s.M ∧ Kp s s'
 | [], s, h => absurd rfl h
 | [a], s, _ => by
   refine ⟨awAdd a 1 s, ⟨rfl, ?_⟩, rfl, Kp.add _ _ _⟩
   show (_, _) = mvStep mo _
   rw [mvStep_7 _ _ _ rfl]
   rfl
 | a :: b :: l, s, _ => by
   obtain ⟨s', g, e, kp⟩ := mv_marks7 (b :: l) (awAdd a 1 s) (by simp)
   refine ⟨s', ⟨rfl, ?_⟩, e, (Kp.add _ _ _).trans kp⟩
   rw [mvStep_7 _ _ _ rfl]
   exact g
theorem mv_out5 (s : AW) : ∃ s' o', Gos mvOver (mvStep mo) 3 (s, ⟨5, lost, now, p, tag, ref, rm, d, m, ⟨0, 0⟩, ⟨0, 0⟩⟩) (s', ⟨6, lost, now, p, tag, ref, rm, d, m, o', ⟨0, 0⟩⟩) ∧ s'.M = outM s.M p ∧ Kp s s' := by
 have e1 : mvStep mo (s, ⟨5, lost, now, p, tag, ref, rm, d, m, ⟨0, 0⟩, ⟨0, 0⟩⟩) = (awLoad p.tags s, ⟨5, lost, now, p, tag, ref, rm, d, m, ⟨1, s.M p.tags⟩, ⟨0, 0⟩⟩) := by rw [mvStep_5 _ _ _ rfl]; rfl
 have e2 : ∀ s wd, mvStep mo (s, ⟨5, lost, now, p, tag, ref, rm, d, m, ⟨1, wd⟩, ⟨0, 0⟩⟩) = (awStore p.tags (twWith wd p.s 0) s, ⟨5, lost, now, p, tag, ref, rm, d, m, ⟨2, wd⟩, ⟨0, 0⟩⟩) := fun s wd => by rw [mvStep_5 _ _ _ rfl]; rfl
 have e3 : ∀ s wd, mvStep mo (s, ⟨5, lost, now, p, tag, ref, rm, d, m, ⟨2, wd⟩, ⟨0, 0⟩⟩) = (awStore p.item 0 s, ⟨6, lost, now, p, tag, ref, rm, d, m, ⟨3, wd⟩, ⟨0, 0⟩⟩) := fun s wd => by rw [mvStep_5 _ _ _ rfl]; rfl
 exact ⟨_, _, (Gos.one rfl e1).trans ((Gos.one rfl (e2 _ _)).trans (Gos.one rfl (e3 _ _))), rfl, (Kp.load _ _).trans ((Kp.store _ _ _).trans (Kp.store _ _ _))⟩
theorem mv_put6 (s : AW) (hd : d.ok) : ∃ s' u', Gos mvOver (mvStep mo) 3 (s, ⟨6, lost, now, p, tag, ref, rm, d, m, o, ⟨0, 0⟩⟩) (s', ⟨7, lost, now, p, tag, ref, rm, d, mk2 p d, o, u'⟩) ∧ s'.M = putM s.M d tag ref ∧ Kp s s' := by
 have hne : ∀ s : AW, (awStore d.item ref s).M d.tags = s.M d.tags := fun s => upd_other _ fun x => Spt.item_tags hd hd x.symm
 have e1 : mvStep mo (s, ⟨6, lost, now, p, tag, ref, rm, d, m, o, ⟨0, 0⟩⟩) = (awStore d.item ref s, ⟨6, lost, now, p, tag, ref, rm, d, m, o, ⟨1, 0⟩⟩) := by rw [mvStep_6 _ _ _ rfl]; rfl
 have e2 : ∀ s, mvStep mo (s, ⟨6, lost, now, p, tag, ref, rm, d, m, o, ⟨1, 0⟩⟩) = (awLoad d.tags s, ⟨6, lost, now, p, tag, ref, rm, d, m, o, ⟨2, s.M d.tags⟩⟩) := fun s => by rw [mvStep_6 _ _ _ rfl]; rfl
 have e3 : ∀ s wd, mvStep mo (s, ⟨6, lost, now, p, tag, ref, rm, d, m, o, ⟨2, wd⟩⟩) = (awStore d.tags (twWith wd d.s tag) s, ⟨7, lost, now, p, tag, ref, rm, d, mk2 p d, o, ⟨3, wd⟩⟩) := fun s wd => by rw [mvStep_6 _ _ _ rfl]; rfl
 refine ⟨_, _, (Gos.one rfl e1).trans ((Gos.one rfl (e2 _)).trans (Gos.one rfl (e3 _ _))), ?_, (Kp.store _ _ _).trans ((Kp.load _ _).trans (Kp.store _ _ _))⟩
 · show upd (upd s.M d.item ref) d.tags (twWith ((awStore d.item ref s).M d.tags) d.s tag) = putM s.M d tag ref
   rw [hne]
   rfl
theorem mv_fail8 (s : AW) : ∃ s' o', Gos mvOver (mvStep mo) 6 (s, ⟨8, lost, now, p, tag, ref, rm, d, [p.ver], ⟨0, 0⟩, u⟩) (s', mvNext ⟨11, lost + 1, now, p, tag, ref, rm, d, [], o', u⟩) ∧
 s'.M = upd (addL [p.ver] (outM (addL [p.ver] s.M) p)) 6 ((addL [p.ver] (outM (addL [p.ver] s.M) p) 6 + 18446744073709551615) % 18446744073709551616) ∧ s'.it = s.it ∧ s.n ≤ s'.n ∧
 ∃ n2 h2 n3 h3, s'.nt = ntAdd (ntAdd s.nt ⟨n2, h2, 1, ref, p.b, p.q, p.s, 0⟩) ⟨n3, h3, 2, ref, p.b, p.q, p.s, 0⟩ ∧ s.n ≤ n2 ∧ n2 ≤ n3 ∧ n3 ≤ s'.n := by
 have e1 : mvStep mo (s, ⟨8, lost, now, p, tag, ref, rm, d, [p.ver], ⟨0, 0⟩, u⟩) = (awAdd p.ver 1 s, ⟨9, lost, now, p, tag, ref, rm, d, [], ⟨0, 0⟩, u⟩) := mvStep_8 _ _ _ rfl
 have e2 : ∀ s, mvStep mo (s, ⟨9, lost, now, p, tag, ref, rm, d, [], ⟨0, 0⟩, u⟩) = (awLoad p.tags s, ⟨9, lost, now, p, tag, ref, rm, d, [], ⟨1, s.M p.tags⟩, u⟩) := fun s => by rw [mvStep_9 _ _ _ rfl]; rfl
 have e3 : ∀ s wd, mvStep mo (s, ⟨9, lost, now, p, tag, ref, rm, d, [], ⟨1, wd⟩, u⟩) = (awNote 1 ref p.b p.q p.s 0 (awStore p.tags (twWith wd p.s 0) s), ⟨9, lost, now, p, tag, ref, rm, d, [], ⟨2, wd⟩, u⟩) := fun s wd => by rw [mvStep_9 _ _ _ rfl]; rfl
 have e4 : ∀ s wd, mvStep mo (s, ⟨9, lost, now, p, tag, ref, rm, d, [], ⟨2, wd⟩, u⟩) = (awStore p.item 0 s, ⟨10, lost, now, p, tag, ref, rm, d, [p.ver], ⟨3, wd⟩, u⟩) := fun s wd => by rw [mvStep_9 _ _ _ rfl]; rfl
 have e5 : ∀ s o, mvStep mo (s, ⟨10, lost, now, p, tag, ref, rm, d, [p.ver], o, u⟩) = (awAdd p.ver 1 s, ⟨11, lost, now, p, tag, ref, rm, d, [], o, u⟩) := fun s o => mvStep_10 _ _ _ rfl
 have e6 : ∀ s o, mvStep mo (s, ⟨11, lost, now, p, tag, ref, rm, d, [], o, u⟩) = (awNote 2 ref p.b p.q p.s 0 (awAdd 6 18446744073709551615 s), mvNext ⟨11, lost + 1, now, p, tag, ref, rm, d, [], o, u⟩) := fun s o => mvStep_11 _ _ _ rfl
 refine ⟨_, _, (Gos.one rfl e1).trans ((Gos.one rfl (e2 _)).trans ((Gos.one rfl (e3 _ _)).trans ((Gos.one rfl (e4 _ _)).trans ((Gos.one rfl (e5 _ _)).trans (Gos.one rfl (e6 _ _)))))), ?_⟩
 · refine ⟨rfl, rfl, ?_, s.n + 1 + 1 + 1, s.ho, s.n + 1 + 1 + 1 + 1 + 1 + 1, s.ho, rfl, ?_, ?_, ?_⟩
   · show s.n ≤ s.n + 1 + 1 + 1 + 1 + 1 + 1; omega
   · omega
   · omega
   · show _ ≤ s.n + 1 + 1 + 1 + 1 + 1 + 1; omega
end
structure MvR (s : AW) (T : Tab) (z : Mvm) (s' : AW) (z' : Mvm) (T' : Tab) : Prop where
 ln : z'.ln = if z.p.s + 1 = 4 then 0 else 1
 now : z'.now = z.now
 p : z'.p = ⟨z.p.b, z.p.q, z.p.s + 1⟩
 rep : Rep s'.M T'
 par : Par s.M s'.M
 it : s'.it = s.it
 up : s.n ≤ s'.n
 oth : ∀ a, a < 64 ∨ 4294967296 < a → a ≠ 6 → s'.M a = s.M a
 res : ((T z.p).1 = 0 ∧ T' = T ∧ s'.M 6 = s.M 6 ∧ s'.nt = s.nt ∧ z'.lost = z.lost) ∨
  ((T z.p).1 ≠ 0 ∧ s'.M 6 = s.M 6 ∧ s'.nt = s.nt ∧ z'.lost = z.lost ∧ ∃ (T1 : Tab) (d : Spt) (h : Int), h = fnvHash (itKey s.it (T z.p).2) ∧ Hopd z.now T T1 ∧ d.ok ∧ d.b = z.now ∧ (d.q = fnvBucket h z.now ∨ d.q = fnvOther (fnvBucket h z.now) (fnvTag h) z.now) ∧ T1 d = (0, 0) ∧ T' = (T1.set z.p (0, 0)).set d (T z.p)) ∨
  ((T z.p).1 ≠ 0 ∧ s'.M 6 = (s.M 6 + 18446744073709551615) % 18446744073709551616 ∧ z'.lost = z.lost + 1 ∧ T' = T.set z.p (0, 0) ∧
    (∀ k, 0 ≤ k → k ≤ 3 → (T ⟨z.now, fnvBucket (fnvHash (itKey s.it (T z.p).2)) z.now, k⟩).1 ≠ 0) ∧
    ∃ n1 h1 n2 h2 n3 h3, s'.nt = ntAdd (ntAdd (ntAdd s.nt ⟨n1, h1, 3, 0, 0, 0, 0, 0⟩) ⟨n2, h2, 1, (T z.p).2, z.p.b, z.p.q, z.p.s, 0⟩) ⟨n3, h3, 2, (T z.p).2, z.p.b, z.p.q, z.p.s, 0⟩ ∧ s.n ≤ n1 ∧ n1 ≤ n2 ∧ n2 ≤ n3 ∧ n3 ≤ s'.n)
theorem mv_slot {mo : Int} {L : Nat} {T : Tab} {s : AW} {z : Mvm} (R : Rep s.M T) (ln : z.ln = 1) (hp : z.p.ok) (hb : z.p.b ≠ z.now) (n0 : 1 ≤ z.now) (n1 : z.now ≤ 12) (hmo : mo ≤ L) (h2 : 2 ≤ L) (hT : FreeOk z.now T)
 (hI : (T z.p).1 ≠ 0 → 1 ≤ (T z.p).2 ∧ (T z.p).2 ≤ 9223372036854775807) : ∃ n s' z' T', n ≤ 14 + 13 * L ∧ Gos mvOver (mvStep mo) n (s, z) (s', z') ∧ MvR s T z s' z' T' := by
 obtain ⟨ln', lost, now, p, tag, ref, rm, d, m, o, u⟩ := z
 dsimp only at ln hp hb n0 n1 hT hI
 subst ln
 have e1 := mvStep_1 mo s ⟨1, lost, now, p, tag, ref, rm, d, m, o, u⟩ rfl
 dsimp only at e1
 rw [R.tg p hp] at e1
 by_cases ht : (T p).1 = 0
 · rw [if_pos ht] at e1
   refine ⟨1, _, _, T, by omega, Gos.one rfl e1, rfl, rfl, rfl, R, Par.refl _, rfl, (Kp.load _ _).n, fun _ _ _ => rfl, .inl ⟨ht, rfl, rfl, rfl, rfl⟩⟩
 · rw [if_neg ht] at e1
   obtain ⟨r0, r1⟩ := hI ht
   have htb := twTag_bd (s.M p.tags) p.s
   rw [R.tg p hp] at htb
   obtain ⟨s1, hs1⟩ : ∃ x, x = awLoad p.tags s := ⟨_, rfl⟩
   have k1 : Kp s s1 := by rw [hs1]; exact Kp.load _ _
   have m1 : s1.M = s.M := by rw [hs1]; rfl
   rw [← hs1] at e1
   have e2 := mvStep_2 mo s1 ⟨2, lost, now, p, (T p).1, ref, rm, d, m, o, u⟩ rfl
   dsimp only at e2
   rw [m1, R.it p hp, IntWalk.wrap64_in _ (by omega), k1.it] at e2
   obtain ⟨h, hh⟩ : ∃ h, h = fnvHash (itKey s.it (T p).2) := ⟨_, rfl⟩
   rw [← hh] at e2
   obtain ⟨s2, hs2⟩ : ∃ x, x = awLoad p.item s1 := ⟨_, rfl⟩
   have k2 : Kp s s2 := by rw [hs2]; exact k1.trans (Kp.load _ _)
   have m2 : s2.M = s.M := by rw [hs2]; exact m1
   rw [← hs2] at e2
   have hhb := fnvHash_bd (itKey s.it (T p).2)
   rw [← hh] at hhb
   obtain ⟨n, s3, r3, T1, q1, q2, g, r⟩ := rm_run (mo := mo) (L := L) (s := s2) (T := T) (h := h) (b := now) (by rw [m2]; exact R) n0 n1 hhb.1 hhb.2 hmo h2 hT
   have G := mv_room (mo := mo) n s2 s3 _ r3 ⟨3, lost, now, p, (T p).1, (T p).2, rmNew now h, d, m, o, u⟩ rfl rfl (by omega) g r.ln
   dsimp only at G
   have G2 := (Gos.one (over := mvOver) (step := mvStep mo) (z := (s, ⟨1, lost, now, p, tag, ref, rm, d, m, o, u⟩)) rfl e1).trans ((Gos.one (over := mvOver) (step := mvStep mo) rfl e2).trans G)
   have up := r.up
   have up2 := k2.n
   have ro := r.oth
   have rp := r.par
   rw [m2] at ro rp
   have c1 := hp.tags
   have c2 := hp.item
   have c3 := hp.ver
   rcases r.res with ⟨is, nt, dok, db, dq, dz, hd⟩ | ⟨is, hM, hTT, hfull, m1', h1', nt, u1, u2⟩
   · rw [if_pos is] at G2
     have hpt : ptNew (T p).1 (T p).2 = ⟨0, 0⟩ := by unfold ptNew; rw [if_pos (by omega)]
     rw [hpt] at G2
     have hml := mk2_len p r3.p
     have hmb := mk2_bd64 hp dok
     have hmn : mk2 p r3.p ≠ [] := fun e => by rw [e] at hml; simp at hml
     obtain ⟨l, hl⟩ : ∃ l, l = mk2 p r3.p := ⟨_, rfl⟩
     rw [← hl] at G2 hml hmb hmn
     obtain ⟨s4, g4, h4, k4⟩ := mv_marks4 (mo := mo) (lost := lost) (now := now) (p := p) (tag := (T p).1) (ref := (T p).2) (rm := r3) (d := r3.p) (o := ⟨0, 0⟩) (u := ⟨0, 0⟩) l s3 hmn
     obtain ⟨s5, o5, g5, h5, k5⟩ := mv_out5 (mo := mo) (lost := lost) (now := now) (p := p) (tag := (T p).1) (ref := (T p).2) (rm := r3) (d := r3.p) (m := []) s4
     obtain ⟨s6, u6, g6, h6, k6⟩ := mv_put6 (mo := mo) (lost := lost) (now := now) (p := p) (tag := (T p).1) (ref := (T p).2) (rm := r3) (m := []) (o := o5) s5 dok
     rw [← hl] at g6
     obtain ⟨s7, g7, h7, k7⟩ := mv_marks7 (mo := mo) (lost := lost) (now := now) (p := p) (tag := (T p).1) (ref := (T p).2) (rm := r3) (d := r3.p) (o := o5) (u := u6) l s6 hmn
     have kk := k4.trans (k5.trans (k6.trans k7))
     have d1 := dok.tags
     have d2 := dok.item
     have far : ∀ a, a < 4096 ∨ 4294967296 ≤ a → s6.M a = addL l s3.M a := fun a ha => by
      rw [h6, putM_oth (by omega) (by omega), h5, outM_oth (by omega) (by omega), h4]
     have oth2 : Oth s3.M s7.M := by rw [h7]; exact marks_oth hmb far
     have hTp : T1 p = T p := hd.other p hb
     refine ⟨_, s7, _, _, ?_, G2.trans (g4.trans (g5.trans (g6.trans g7))), rfl, rfl, rfl, ?_, rp.trans ?_, ?_, ?_, fun a ha _ => (ro.trans oth2) a ha, .inr (.inl ⟨ht, (ro.trans oth2) 6 (by omega), ?_, rfl, T1, r3.p, h, hh, hd, dok, db, dq, dz, rfl⟩)⟩
     · omega
     · rw [h7, h6, h5, h4]
       exact ((((r.rep.addL hmb).out hp).put dok (by omega) (by omega)).addL hmb)
     · rw [h7]; exact marks_par fun a ha => far a (.inl ha)
     · exact kk.it.trans (r.it.trans k2.it)
     · exact Int.le_trans up2 (Int.le_trans up kk.n)
     · exact kk.nt.trans (nt.trans k2.nt)
   · rw [if_neg (by rw [is]; decide)] at G2
     obtain ⟨s4, o4, g4, h4, it4, n4, na, ha, nb, hb', nt4, v1, v2, v3⟩ := mv_fail8 (mo := mo) (lost := lost) (now := now) (p := p) (tag := (T p).1) (ref := (T p).2) (rm := r3) (d := sp20) (u := u) s3
     have hvb : ∀ a ∈ [p.ver], 64 ≤ a ∧ a < 128 := fun a h => by rw [List.mem_singleton.1 h]; exact c3
     have far : ∀ a, a < 4096 ∨ 4294967296 ≤ a → outM (addL [p.ver] s3.M) p a = addL [p.ver] s3.M a := fun a ha => outM_oth (by omega) (by omega)
     have oth2 : Oth s3.M (addL [p.ver] (outM (addL [p.ver] s3.M) p)) := marks_oth hvb far
     have par2 : Par s3.M (addL [p.ver] (outM (addL [p.ver] s3.M) p)) := marks_par fun a ha => far a (.inl ha)
     have e6 : addL [p.ver] (outM (addL [p.ver] s3.M) p) 6 = s.M 6 := (ro.trans oth2) 6 (by omega)
     rw [e6] at h4
     rw [hTT] at r
     refine ⟨_, s4, _, _, ?_, G2.trans g4, rfl, rfl, rfl, ?_, fun i hi => ?_, ?_, ?_, fun a ha h6 => ?_, .inr (.inr ⟨ht, ?_, rfl, rfl, ?_, m1', h1', na, ha, nb, hb', ?_, ?_, ?_, v2, v3⟩)⟩
     · omega
     · rw [h4]
       exact (((r.rep.addL hvb).out hp).addL hvb).low fun a x1 x2 => upd_other _ (by omega)
     · rw [h4, upd_other _ (by omega)]
       exact (rp.trans par2) i hi
     · exact it4.trans (r.it.trans k2.it)
     · exact Int.le_trans up2 (Int.le_trans up n4)
     · rw [h4, upd_other _ h6]
       exact (ro.trans oth2) a ha
     · rw [h4, upd_same]
     · rw [← hh]; exact hfull
     · rw [nt4, nt, k2.nt]
     · exact Int.le_trans up2 u1
     · exact Int.le_trans u2 v1
end
section
set_option linter.unusedVariables false
open Go.RowKit
structure MvPr (s : AW) (T : Tab) (z : Mvm) : Prop where
 R : Rep s.M T
 ln : z.ln = 1
 p : z.p.ok
 nb : z.p.b ≠ z.now
 n0 : 1 ≤ z.now
 n1 : z.now ≤ 12
 hT : FreeOk z.now T
 hI : (T z.p).1 ≠ 0 → 1 ≤ (T z.p).2 ∧ (T z.p).2 ≤ 9223372036854775807
theorem mv_four {mo : Int} {L : Nat} (hmo : mo ≤ L) (h2 : 2 ≤ L) (J : Nat → AW → Tab → Mvm → Prop) (hJ : ∀ i s T z, i < 4 → J i s T z → MvPr s T z ∧ ∀ s' z' T', MvR s T z s' z' T' → J (i + 1) s' T' z') :
 ∀ (k i : Nat) (s : AW) (T : Tab) (z : Mvm), i + k = 4 → J i s T z → ∃ n s' z' T', n ≤ k * (14 + 13 * L) ∧ Gos mvOver (mvStep mo) n (s, z) (s', z') ∧ J 4 s' T' z' := by
 intro k
 induction k with
 | zero =>
   intro i s T z hi h
   have : i = 4 := by omega
   subst this
   exact ⟨0, s, z, T, by omega, rfl, h⟩
 | succ k ih =>
   intro i s T z hi h
   obtain ⟨P, step⟩ := hJ i s T z (by omega) h
   obtain ⟨n, s1, z1, T1, c1, g1, r1⟩ := mv_slot P.R P.ln P.p P.nb P.n0 P.n1 hmo h2 P.hT P.hI
   obtain ⟨m, s2, z2, T2, c2, g2, r2⟩ := ih (i + 1) s1 T1 z1 (by omega) (step s1 z1 T1 r1)
   refine ⟨n + m, s2, z2, T2, ?_, g1.trans g2, r2⟩
   rw [Nat.succ_mul]
   omega
def drC (k : Int) (l : List Nt) (r : Nat) : Int := ((l.countP fun x => x.kind == k && x.ref == (r : Int) : Nat) : Int)
theorem drC_append (k : Int) (l m : List Nt) (r : Nat) : drC k (l ++ m) r = drC k l r + drC k m r := by unfold drC; rw [List.countP_append]; omega
theorem drC_one (k : Int) (x : Nt) (r : Nat) : drC k [x] r = if x.kind = k ∧ x.ref = (r : Int) then 1 else 0 := by
 unfold drC
 by_cases h : x.kind = k ∧ x.ref = (r : Int)
 · rw [if_pos h, List.countP_cons_of_pos (by simp [h.1, h.2])]; rfl
 · rw [if_neg h, List.countP_cons_of_neg (by simpa using h)]; rfl
structure DrOk (l : List Nt) : Prop where
 ref : ∀ x ∈ l, 0 ≤ x.ref ∧ x.ref ≤ 63
 pre : ∀ (k r : Nat), drC 2 (l.take k) r ≤ drC 1 (l.take k) r
 eq : ∀ r : Nat, drC 1 l r = drC 2 l r
theorem DrOk.nil : DrOk [] := ⟨fun x h => (by cases h), fun k r => by rw [List.take_nil]; exact Int.le_refl _, fun _ => rfl⟩
theorem DrOk.three {l : List Nt} (h : DrOk l) {a b c : Nt} (ka : a.kind = 3) (kb : b.kind = 1) (kc : c.kind = 2) (ra : a.ref = 0) (rbc : c.ref = b.ref) (r0 : 0 ≤ b.ref) (r1 : b.ref ≤ 63) : DrOk (l ++ [a, b, c]) := by
 refine ⟨fun x hx => ?_, fun k r => ?_, fun r => ?_⟩
 · rcases List.mem_append.1 hx with g | g
   · exact h.ref x g
   · simp only [List.mem_cons, List.not_mem_nil, or_false] at g
     rcases g with e | e | e <;> rw [e] <;> omega
 · rw [List.take_append]
   rw [drC_append, drC_append]
   have h1 := h.pre k r
   obtain ⟨j, hj⟩ : ∃ j, j = k - l.length := ⟨_, rfl⟩
   rw [← hj]
   have hd : drC 2 ([a, b, c].take j) r ≤ drC 1 ([a, b, c].take j) r := by
    have e1 := drC_one 2 a r
    have e2 := drC_one 2 b r
    have e3 := drC_one 2 c r
    have f1 := drC_one 1 a r
    have f2 := drC_one 1 b r
    have f3 := drC_one 1 c r
    rw [if_neg (by omega)] at e1 e2 f1 f3
    match j with
    | 0 => exact Int.le_refl _
    | 1 => show drC 2 [a] r ≤ drC 1 [a] r; omega
    | 2 =>
      show drC 2 ([a] ++ [b]) r ≤ drC 1 ([a] ++ [b]) r
      rw [drC_append, drC_append, e1, e2, f1, f2]
      split <;> omega
    | j + 3 =>
      have : ([a, b, c] : List Nt).take (j + 3) = [a] ++ ([b] ++ [c]) := by simp
      rw [this, drC_append, drC_append, drC_append, drC_append, e1, e2, f1, f2, e3, f3, kb, kc, rbc]
      simp
   omega
 · have e1 := drC_one 2 a r
   have e2 := drC_one 2 b r
   have e3 := drC_one 2 c r
   have f1 := drC_one 1 a r
   have f2 := drC_one 1 b r
   have f3 := drC_one 1 c r
   rw [if_neg (by omega)] at e1 e2 f1 f3
   have : ([a, b, c] : List Nt) = [a] ++ ([b] ++ [c]) := rfl
   rw [drC_append, drC_append, this, drC_append, drC_append, drC_append, drC_append, e1, e2, f1, f2, e3, f3, h.eq r, kb, kc, rbc]
   simp
theorem drC_three {l : List Nt} {a b c : Nt} (ka : a.kind = 3) (kb : b.kind = 1) (kc : c.kind = 2) (r : Nat) : drC 1 (l ++ [a, b, c]) r = drC 1 l r + if b.ref = (r : Int) then 1 else 0 := by
 have f1 := drC_one 1 a r
 have f2 := drC_one 1 b r
 have f3 := drC_one 1 c r
 rw [if_neg (by omega)] at f1 f3
 have : ([a, b, c] : List Nt) = [a] ++ ([b] ++ [c]) := rfl
 rw [drC_append, this, drC_append, drC_append, f1, f2, f3, kb]
 simp
theorem sumN_if (x : Int) (h0 : 0 ≤ x) : ∀ n : Nat, sumN (fun r => if x = (r : Int) then 1 else 0) n = if x < n then 1 else 0
 | 0 => by rw [if_neg (by omega)]; rfl
 | n + 1 => by
   show sumN _ n + (if x = (n : Int) then 1 else 0) = _
   rw [sumN_if x h0 n]
   by_cases c : x < n
   · rw [if_pos c, if_neg (by omega), if_pos (by omega)]; rfl
   · by_cases d : x = n
     · rw [if_neg c, if_pos d, if_pos (by omega)]; rfl
     · rw [if_neg c, if_neg d, if_neg (by omega)]; rfl
structure NtI (s : AW) (lost : Int) : Prop where
 dr : DrOk s.nt
 st : ∀ x ∈ s.nt, x.step ≤ s.n
 len : (s.nt.length : Int) ≤ 3 * lost
 tot : sumN (drC 1 s.nt) 64 = lost
theorem NtI.start {s : AW} (h : s.nt = []) : NtI s 0 := by
 refine ⟨by rw [h]; exact .nil, fun x hx => (by rw [h] at hx; cases hx), by rw [h]; exact Int.le_refl _, ?_⟩
 rw [h]
 exact sumN_zero 64
theorem NtI.same {s s' : AW} {lost : Int} (h : NtI s lost) (e : s'.nt = s.nt) (n : s.n ≤ s'.n) : NtI s' lost := by
 refine ⟨by rw [e]; exact h.dr, fun x hx => ?_, by rw [e]; exact h.len, by rw [e]; exact h.tot⟩
 rw [e] at hx
 have := h.st x hx
 omega
theorem NtI.drop {s s' : AW} {lost n1 h1 n2 h2 n3 h3 ref b q sl : Int} (h : NtI s lost) (hl : lost ≤ 300000) (r0 : 0 ≤ ref) (r1 : ref ≤ 63)
 (e : s'.nt = ntAdd (ntAdd (ntAdd s.nt ⟨n1, h1, 3, 0, 0, 0, 0, 0⟩) ⟨n2, h2, 1, ref, b, q, sl, 0⟩) ⟨n3, h3, 2, ref, b, q, sl, 0⟩) (u1 : s.n ≤ n1) (u2 : n1 ≤ n2) (u3 : n2 ≤ n3) (u4 : n3 ≤ s'.n) :
 NtI s' (lost + 1) ∧ ∀ r : Nat, drC 1 s'.nt r = drC 1 s.nt r + if ref = (r : Int) then 1 else 0 := by
 have hlen := h.len
 have e1 : ntAdd s.nt ⟨n1, h1, 3, 0, 0, 0, 0, 0⟩ = s.nt ++ [⟨n1, h1, 3, 0, 0, 0, 0, 0⟩] := ntAdd_fine (by show (1 : Int) ≤ 3; omega) (by show (3 : Int) ≤ 9; omega) (by omega) fun m hm => by have := h.st m hm; show m.step ≤ n1; omega
 rw [e1] at e
 have e2 : ntAdd (s.nt ++ [⟨n1, h1, 3, 0, 0, 0, 0, 0⟩]) ⟨n2, h2, 1, ref, b, q, sl, 0⟩ = s.nt ++ [⟨n1, h1, 3, 0, 0, 0, 0, 0⟩] ++ [⟨n2, h2, 1, ref, b, q, sl, 0⟩] := ntAdd_fine (by show (1 : Int) ≤ 1; omega) (by show (1 : Int) ≤ 9; omega) (by rw [List.length_append]; simp; omega) fun m hm => by
  show m.step ≤ n2
  rcases List.mem_append.1 hm with g | g
  · have := h.st m g; omega
  · rw [List.mem_singleton.1 g]; exact u2
 rw [e2] at e
 have e3 : ntAdd (s.nt ++ [⟨n1, h1, 3, 0, 0, 0, 0, 0⟩] ++ [⟨n2, h2, 1, ref, b, q, sl, 0⟩]) ⟨n3, h3, 2, ref, b, q, sl, 0⟩ = s.nt ++ [⟨n1, h1, 3, 0, 0, 0, 0, 0⟩] ++ [⟨n2, h2, 1, ref, b, q, sl, 0⟩] ++ [⟨n3, h3, 2, ref, b, q, sl, 0⟩] := ntAdd_fine (by show (1 : Int) ≤ 2; omega) (by show (2 : Int) ≤ 9; omega) (by rw [List.length_append, List.length_append]; simp; omega) fun m hm => by
  show m.step ≤ n3
  rcases List.mem_append.1 hm with g | g
  · rcases List.mem_append.1 g with g | g
    · have := h.st m g; omega
    · rw [List.mem_singleton.1 g]; show n1 ≤ n3; omega
  · rw [List.mem_singleton.1 g]; exact u3
 rw [e3] at e
 have e4 : s'.nt = s.nt ++ [⟨n1, h1, 3, 0, 0, 0, 0, 0⟩, ⟨n2, h2, 1, ref, b, q, sl, 0⟩, ⟨n3, h3, 2, ref, b, q, sl, 0⟩] := by rw [e]; simp
 have hd : ∀ r : Nat, drC 1 s'.nt r = drC 1 s.nt r + if ref = (r : Int) then 1 else 0 := fun r => by rw [e4]; exact drC_three rfl rfl rfl r
 refine ⟨⟨by rw [e4]; exact h.dr.three rfl rfl rfl rfl rfl r0 r1, fun x hx => ?_, by rw [e4, List.length_append]; simp; omega, ?_⟩, hd⟩
 · rw [e4] at hx
   rcases List.mem_append.1 hx with g | g
   · have := h.st x g; omega
   · simp only [List.mem_cons, List.not_mem_nil, or_false] at g
     rcases g with g | g | g
     · rw [g]; show n1 ≤ _; omega
     · rw [g]; show n2 ≤ _; omega
     · rw [g]; exact u4
 · rw [sumN_congr (J := fun r => drC 1 s.nt r + if ref = (r : Int) then 1 else 0) fun i _ => hd i, sumN_add, h.tot, sumN_if ref r0, if_pos (by omega)]
def SlOk (x : Int × Int) : Prop := (x.1 = 0 → x = (0, 0)) ∧ (x.1 ≠ 0 → 1 ≤ x.2 ∧ x.2 < 64)
theorem SlOk.free {b : Int} {T : Tab} (h : ∀ q : Spt, q.ok → q.b = b → SlOk (T q)) : FreeOk b T := fun _ p hp hb => ⟨(h p hp hb).1, fun e => by have := (h p hp hb).2 e; omega⟩
theorem mvStep_lost (mo : Int) (s : AW) (z : Mvm) (h0 : 0 ≤ z.lost) (h1 : z.lost ≤ z.p.s) : 0 ≤ (mvStep mo (s, z)).2.lost ∧ (mvStep mo (s, z)).2.lost ≤ (mvStep mo (s, z)).2.p.s := by
 have nx : ∀ y : Mvm, 0 ≤ y.lost → y.lost ≤ y.p.s + 1 → 0 ≤ (mvNext y).lost ∧ (mvNext y).lost ≤ (mvNext y).p.s := fun y q0 q1 => by unfold mvNext; exact ⟨q0, q1⟩
 have m7 : ∀ y : Mvm, 0 ≤ y.lost → y.lost ≤ y.p.s → 0 ≤ (mv7 y).lost ∧ (mv7 y).lost ≤ (mv7 y).p.s := fun y q0 q1 => by unfold mv7; exact ⟨q0, q1⟩
 by_cases g1 : z.ln = 1
 · rw [mvStep_1 _ _ _ g1]
   dsimp only
   split
   · exact nx _ h0 (by dsimp only; omega)
   · exact ⟨h0, h1⟩
 by_cases g2 : z.ln = 2
 · rw [mvStep_2 _ _ _ g2]
   dsimp only
   exact ⟨h0, h1⟩
 by_cases g3 : z.ln = 3
 · rw [mvStep_3 _ _ _ g3]
   dsimp only
   repeat' split
   all_goals exact ⟨h0, h1⟩
 by_cases g4 : z.ln = 4
 · rw [mvStep_4 _ _ _ g4]
   dsimp only
   exact ⟨h0, h1⟩
 by_cases g5 : z.ln = 5
 · rw [mvStep_5 _ _ _ g5]
   dsimp only
   repeat' split
   · exact m7 _ h0 h1
   all_goals exact ⟨h0, h1⟩
 by_cases g6 : z.ln = 6
 · rw [mvStep_6 _ _ _ g6]
   dsimp only
   split
   · exact m7 _ h0 h1
   · exact ⟨h0, h1⟩
 by_cases g7 : z.ln = 7
 · rw [mvStep_7 _ _ _ g7]
   dsimp only
   split
   · exact nx _ h0 (by omega)
   · exact ⟨h0, h1⟩
 by_cases g8 : z.ln = 8
 · rw [mvStep_8 _ _ _ g8]
   dsimp only
   exact ⟨h0, h1⟩
 by_cases g9 : z.ln = 9
 · rw [mvStep_9 _ _ _ g9]
   dsimp only
   exact ⟨h0, h1⟩
 by_cases g10 : z.ln = 10
 · rw [mvStep_10 _ _ _ g10]
   dsimp only
   exact ⟨h0, h1⟩
 by_cases g11 : z.ln = 11
 · rw [mvStep_11 _ _ _ g11]
   dsimp only
   exact nx _ (by dsimp only; omega) (by dsimp only; omega)
 have e : mvStep mo (s, z) = (s, z) := by
  unfold mvStep
  dsimp only
  rw [if_neg g1, if_neg g2, if_neg g3, if_neg g4, if_neg g5, if_neg g6, if_neg g7, if_neg g8, if_neg g9, if_neg g10, if_neg g11]
 rw [e]
 exact ⟨h0, h1⟩
end
section
set_option linter.unusedVariables false
open Go.RowKit
def miC (T : Tab) (b qb : Int) : Nat → Int
 | 0 => 0
 | i + 1 => miC T b qb i + gOcc (T ⟨b, qb, i⟩)
theorem miC_bd (T : Tab) (b qb : Int) : ∀ i : Nat, 0 ≤ miC T b qb i ∧ miC T b qb i ≤ i
 | 0 => ⟨Int.le_refl _, Int.le_refl _⟩
 | i + 1 => by
   have h := miC_bd T b qb i
   have g := gOcc_bd (T ⟨b, qb, i⟩)
   show 0 ≤ miC T b qb i + _ ∧ miC T b qb i + _ ≤ _
   omega
section
variable {full : Bool} {b qb : Int} {T0 : Tab} {s0 : AW} {N : Nat}
theorem plOld_two {b : Int} (b0 : 1 ≤ b) (b1 : b ≤ 11) : plOld (plWord b (b + 1)) = b ∧ plNow (plWord b (b + 1)) = b + 1 := by
 have e1 : b % 256 = b := by omega
 have e2 : (b + 1) % 256 = b + 1 := by omega
 have h1 : plWord b (b + 1) % 256 = b := by unfold plWord; rw [e1, e2]; omega
 have e3 : (b + 256 * (b + 1)) / 256 = b + 1 := by omega
 have h2 : plWord b (b + 1) / 256 % 256 = b + 1 := by unfold plWord; rw [e1, e2, e3, e2]
 have ho : plOld (plWord b (b + 1)) = b := by unfold plOld; rw [h1, if_pos (by omega)]
 refine ⟨ho, ?_⟩
 unfold plNow
 rw [h2, ho, if_pos (by omega)]
end
end
section
set_option linter.unusedVariables false
open Go.RowKit
def StT (t : Int) (ks : List ByteArray) (p : Spt) (x : Int × Int) : Prop :=
 x = (0, 0) ∨ ∃ (r : Nat) (k : ByteArray), ks[r]? = some k ∧ x.2 = (r : Int) + 1 ∧ x.1 = fnvTag (keyH k) ∧ (p.b, p.q) ∈ plPlaces (keyH k) t
theorem StT.slok {t : Int} {ks : List ByteArray} {p : Spt} {x : Int × Int} (h : StT t ks p x) (hks : ks.length ≤ 40) : SlOk x := by
 rcases h with h | ⟨r, k, h1, h2, h3, h4⟩
 · rw [h]; exact ⟨fun _ => rfl, fun e => absurd rfl e⟩
 · have hr := (List.getElem?_eq_some_iff.1 h1).1
   have ht := fnvTag_key k
   exact ⟨fun e => by omega, fun _ => by omega⟩
theorem plPlaces_mem {h t c q : Int} (hc : plIn t c) : (c, q) ∈ plPlaces h t ↔ q = fnvBucket h c ∨ q = fnvOther (fnvBucket h c) (fnvTag h) c := by
 have ho := plOld_bd t
 have hn := plNow_cases t
 have hb : 1 ≤ c ∧ c ≤ 12 := by rcases hc with e | ⟨e, e2⟩ <;> omega
 unfold plPlaces
 rw [plOnce_mem, List.mem_append, plPair_in ho.1 ho.2]
 constructor
 · intro g
   rcases g with g | g
   · simp only [List.mem_cons, List.not_mem_nil, or_false, Prod.mk.injEq] at g
     rcases g with ⟨e, g⟩ | ⟨e, g⟩
     · rw [e]; exact .inl g
     · rw [e]; exact .inr g
   · by_cases z : plNow t = 0
     · rw [z, plPair_out (by omega)] at g; cases g
     · rw [plPair_in (by omega) (by omega)] at g
       simp only [List.mem_cons, List.not_mem_nil, or_false, Prod.mk.injEq] at g
       rcases g with ⟨e, g⟩ | ⟨e, g⟩
       · rw [e]; exact .inl g
       · rw [e]; exact .inr g
 · intro g
   rcases hc with e | ⟨e, e2⟩
   · left
     simp only [List.mem_cons, List.not_mem_nil, or_false, Prod.mk.injEq]
     rw [← e]
     exact g.imp (fun x => ⟨rfl, x⟩) fun x => ⟨rfl, x⟩
   · right
     rw [plPair_in (by omega) (by omega)]
     simp only [List.mem_cons, List.not_mem_nil, or_false, Prod.mk.injEq]
     rw [← e]
     exact g.imp (fun x => ⟨rfl, x⟩) fun x => ⟨rfl, x⟩
theorem Hopd.stT {b t : Int} {ks : List ByteArray} {T T' : Tab} (hb : plIn t b) (h : Hopd b T T') : (∀ q : Spt, q.ok → plIn t q.b → StT t ks q (T q)) → ∀ q : Spt, q.ok → plIn t q.b → StT t ks q (T' q) := by
 induction h with
 | refl T => exact id
 | @hop T T' p q hp hq pb qb hn ht hz ho h ih =>
   intro hf
   refine ih fun x hx hxb => ?_
   by_cases c : x.is q
   · rw [Spt.is_eq c, Tab.set_same]
     rcases hf p hp (by rw [pb]; exact hb) with e | ⟨r, k, h1, h2, h3, h4⟩
     · rw [e] at ht; exact absurd rfl ht
     · refine .inr ⟨r, k, h1, h2, h3, ?_⟩
       rw [pb] at h4
       rw [qb, plPlaces_mem hb, ← ho, h3]
       have hbb : 1 ≤ b ∧ b ≤ 12 := ⟨pb ▸ hp.b0, pb ▸ hp.b1⟩
       have hbk := fnvBucket_bd (h := keyH k) hbb.1 hbb.2
       have htg := fnvTag_key k
       rcases (plPlaces_mem hb).1 h4 with e | e
       · exact .inr (by rw [e])
       · exact .inl (by rw [e]; exact fnvOther_back ⟨hbk.1, hbk.2, htg.1, htg.2⟩)
   · rw [Tab.set_ne _ c]
     by_cases d : x.is p
     · rw [Spt.is_eq d, Tab.set_same]; exact .inl rfl
     · rw [Tab.set_ne _ d]; exact hf x hx hxb
def gIt (r : Nat) (x : Int × Int) : Int := if x.2 = r ∧ r ≠ 0 then 1 else 0
theorem gIt_0 (r : Nat) : gIt r (0, 0) = 0 := by unfold gIt; rw [if_neg (by dsimp only; omega)]
theorem gIt_bd (r : Nat) (x : Int × Int) : 0 ≤ gIt r x ∧ gIt r x ≤ 1 := by unfold gIt; split <;> omega
theorem stC_tC (t : Int) (M : Int → Int) (r : Nat) : ∀ n : Nat, stC t M n r = tC (gIt r) (tabOf M) t n
 | 0 => rfl
 | n + 1 => by
   unfold stC
   rw [stC_tC t M r n]
   rfl
theorem gIt_sum (x : Int × Int) (h0 : 0 ≤ x.2) : ∀ n : Nat, sumN (fun r => gIt r x) n = if 1 ≤ x.2 ∧ x.2 < n then 1 else 0
 | 0 => by rw [if_neg (by omega)]; rfl
 | n + 1 => by
   show sumN _ n + gIt n x = _
   rw [gIt_sum x h0 n]
   unfold gIt
   by_cases c : 1 ≤ x.2 ∧ x.2 < n
   · rw [if_pos c, if_neg (by omega), if_pos (by omega)]; rfl
   · by_cases d : x.2 = n ∧ n ≠ 0
     · rw [if_neg c, if_pos d, if_pos (by omega)]; rfl
     · rw [if_neg c, if_neg d, if_neg (by omega)]; rfl
theorem sumN_sub (I J : Nat → Int) : ∀ n, sumN (fun r => I r - J r) n = sumN I n - sumN J n
 | 0 => rfl
 | n + 1 => by
   show sumN _ n + (I n - J n) = sumN I n + I n - (sumN J n + J n)
   rw [sumN_sub I J n]; omega
structure MaS (t b : Int) (ks : List ByteArray) (N : Nat) (C : Nat → Int) (s : AW) (T : Tab) (lost : Int) : Prop where
 rep : Rep s.M T
 sl : ∀ p : Spt, p.ok → plIn t p.b → StT t ks p (T p)
 it : s.it = ks.map fulIt
 nti : NtI s lost
 odd : ∀ i : Nat, i < 64 → s.M (64 + (i : Int)) % 2 = 0
 wd : s.M 2 = t
 cnt : s.M 6 = sumN (fun r => tC (gIt r) T t N) 64
 bal : ∀ r : Nat, tC (gIt r) T t N + drC 1 s.nt r = C r
structure MaI (t b qb : Int) (ks : List ByteArray) (N : Nat) (C : Nat → Int) (T0 : Tab) (s0 : AW) (lost0 : Int) (i : Nat) (s : AW) (T : Tab) (z : Mvm) : Prop where
 ln : z.ln = if i = 4 then 0 else 1
 now : z.now = b + 1
 p : z.p = ⟨b, qb, i⟩
 S : MaS t b ks N C s T (lost0 + z.lost)
 l0 : 0 ≤ z.lost
 l1 : z.lost ≤ miC T0 b qb i
 old : ∀ p : Spt, p.ok → p.b = b → T p = if p.q = qb ∧ p.s < i then (0, 0) else T0 p
section
variable {t b qb lost0 : Int} {ks : List ByteArray} {N : Nat} {C : Nat → Int} {T0 : Tab} {s0 : AW}
structure MaC (t b qb : Int) (ks : List ByteArray) (N : Nat) (T0 : Tab) : Prop where
 b0 : 1 ≤ b
 b1 : b ≤ 3
 q0 : 0 ≤ qb
 q1 : qb < fnvSize b
 ho : plOld t = b
 hn : plNow t = b + 1
 hN : (N : Int) = plSpots t
 hks : ks.length ≤ 40
 sl0 : ∀ p : Spt, p.ok → plIn t p.b → StT t ks p (T0 p)
theorem MaI.step (K : MaC t b qb ks N T0) (hl0 : 0 ≤ lost0) (hl1 : lost0 ≤ 1000) {i : Nat} {s : AW} {T : Tab} {z : Mvm} (hi : i < 4) (H : MaI t b qb ks N C T0 s0 lost0 i s T z) : MvPr s T z ∧ ∀ s' z' T', MvR s T z s' z' T' → MaI t b qb ks N C T0 s0 lost0 (i + 1) s' T' z' := by
 obtain ⟨ln, now, hp, S, l0, l1, old⟩ := H
 have b0 := K.b0
 have b1 := K.b1
 have hib : plIn t b := .inl K.ho.symm
 have hin : plIn t (b + 1) := .inr ⟨K.hn.symm, by rw [K.hn]; omega⟩
 have hpk : z.p.ok := by rw [hp]; exact ⟨b0, by dsimp only; omega, K.q0, K.q1, by dsimp only; omega, by dsimp only; omega⟩
 have hpb : z.p.b = b := by rw [hp]
 have hTp : T z.p = T0 z.p := by rw [old _ hpk hpb, hp, if_neg (by dsimp only; omega)]
 have hst := S.sl z.p hpk (by rw [hpb]; exact hib)
 have hsl := hst.slok K.hks
 have hmi : miC T0 b qb (i + 1) = miC T0 b qb i + gOcc (T0 z.p) := by rw [hp]; rfl
 have hmb := miC_bd T0 b qb i
 have hgb := gOcc_bd (T0 z.p)
 refine ⟨⟨S.rep, by rw [ln, if_neg (by omega)], hpk, by rw [hpb, now]; omega, by omega, by omega, ?_, fun e => by have := hsl.2 e; omega⟩, fun s' z' T' R => ?_⟩
 · rw [now]
   exact SlOk.free fun q hq hqb => (S.sl q hq (by rw [hqb]; exact hin)).slok K.hks
 · have R1 := R.ln
   have R3 := R.p
   rw [hp] at R1 R3
   dsimp only at R1 R3
   have rln : z'.ln = if i + 1 = 4 then 0 else 1 := by
    rw [R1]
    by_cases c : i + 1 = 4
    · rw [if_pos (by omega), if_pos c]
    · rw [if_neg (by omega), if_neg c]
   have rnow : z'.now = b + 1 := R.now.trans now
   have rp : z'.p = ⟨b, qb, ((i + 1 : Nat) : Int)⟩ := by rw [R3]; rfl
   have rit := R.it.trans S.it
   have rodd : ∀ i : Nat, i < 64 → s'.M (64 + (i : Int)) % 2 = 0 := fun i hi => (R.par i hi).trans (S.odd i hi)
   have rwd : s'.M 2 = t := (R.oth 2 (.inl (by decide)) (by decide)).trans S.wd
   have keyo : ∀ p : Spt, p.ok → p.b = b → (if p.is z.p then (0, 0) else T p) = if p.q = qb ∧ p.s < ((i + 1 : Nat) : Int) then (0, 0) else T0 p := fun p hp2 hpb2 => by
    rw [old p hp2 hpb2, hp]
    by_cases c : p.q = qb
    · by_cases d : p.s = i
      · rw [if_pos ⟨hpb2, c, d⟩, if_pos ⟨c, by omega⟩]
      · rw [if_neg fun e => d e.2.2]
        by_cases e : p.s < i
        · rw [if_pos ⟨c, e⟩, if_pos ⟨c, by omega⟩]
        · rw [if_neg fun x => e x.2, if_neg fun x => by have := x.2; omega]
    · rw [if_neg fun e => c e.2.1, if_neg fun e => c e.1, if_neg fun e => c e.1]
   rcases R.res with ⟨h1, h2, h3, h4, h5⟩ | ⟨h1, h2, h3, h4, T1, d, h, hh, hop, dok, db, dq, dz, h5⟩ | ⟨h1, h2, h3, h4, h5, n1, h1', n2, h2', n3, h3', h6, u1, u2, u3, u4⟩
   · have hz0 : T z.p = (0, 0) := hsl.1 h1
     refine ⟨rln, rnow, rp, ⟨R.rep, by rw [h2]; exact S.sl, rit, by rw [h5]; exact S.nti.same h4 R.up, rodd, rwd, by rw [h3, h2]; exact S.cnt, fun r => by rw [h2, h4]; exact S.bal r⟩, by omega, by omega, fun p hp2 hpb2 => ?_⟩
     rw [← keyo p hp2 hpb2, h2]
     by_cases c : p.is z.p
     · rw [if_pos c, Spt.is_eq c, hz0]
     · rw [if_neg c]
   · rw [now] at hop db dq
     have hdn : ¬ d.is z.p := fun e => by have := e.1; omega
     have hT1p : T1 z.p = T z.p := hop.other z.p (by omega)
     have hsum : ∀ r : Nat, tC (gIt r) T' t N = tC (gIt r) T t N := fun r => by
      rw [h5, ← hT1p, tC_move (gIt_0 r) K.hN hpk dok (by rw [hpb]; exact hib) (by rw [db]; exact hin) hdn dz, hop.sum (gIt_0 r) K.hN]
     have hsl1 := hop.stT (ks := ks) hin S.sl
     refine ⟨rln, rnow, rp, ⟨R.rep, fun p hp2 hpb2 => ?_, rit, by rw [h4]; exact S.nti.same h3 R.up, rodd, rwd, by rw [h2, S.cnt]; exact sumN_congr fun r _ => (hsum r).symm, fun r => by rw [hsum, h3]; exact S.bal r⟩, by omega, by omega, fun p hp2 hpb2 => ?_⟩
     · rw [h5]
       by_cases c : p.is d
       · rw [Spt.is_eq c, Tab.set_same]
         rcases hst with e | ⟨r, k, g1, g2, g3, g4⟩
         · rw [e] at h1; exact absurd rfl h1
         · refine .inr ⟨r, k, g1, g2, g3, ?_⟩
           rw [db, plPlaces_mem hin]
           have hkey : h = keyH k := by
            rw [hh, S.it]
            unfold itKey
            rw [if_pos (by omega), g2, show ((r : Int) + 1 - 1).toNat = r by omega, List.getElem?_map, g1]
            rfl
           rw [← hkey]
           exact dq
       · rw [Tab.set_ne _ c]
         by_cases e : p.is z.p
         · rw [Spt.is_eq e, Tab.set_same]; exact .inl rfl
         · rw [Tab.set_ne _ e]; exact hsl1 p hp2 hpb2
     · rw [← keyo p hp2 hpb2, h5, Tab.set_ne _ (fun e => by have := e.1; omega)]
       unfold Tab.set
       rw [hop.other p (by omega)]
   · have hr := hsl.2 h1
     have hg : gOcc (T0 z.p) = 1 := by rw [← hTp]; unfold gOcc; rw [if_neg h1]
     have hnd := S.nti.drop (by omega) (by omega : 0 ≤ (T z.p).2) (by omega) h6 u1 u2 u3 u4
     have hsum : ∀ r : Nat, tC (gIt r) T' t N = tC (gIt r) T t N - gIt r (T z.p) := fun r => by
      rw [h4, tC_set K.hN hpk (by rw [hpb]; exact hib), gIt_0]; omega
     have hsum64 : sumN (fun r => tC (gIt r) T' t N) 64 = sumN (fun r => tC (gIt r) T t N) 64 - 1 := by
      rw [sumN_congr (J := fun r => tC (gIt r) T t N - gIt r (T z.p)) fun r _ => hsum r, sumN_sub, gIt_sum _ (by omega), if_pos (by omega)]
     have hpos : 1 ≤ sumN (fun r => tC (gIt r) T t N) 64 := by
      have h0 : 0 ≤ sumN (fun r => tC (gIt r) T' t N) 64 := by
       have : ∀ n, 0 ≤ sumN (fun r => tC (gIt r) T' t N) n := by
        intro n
        induction n with
        | zero => exact Int.le_refl _
        | succ n ih =>
          have := tC_pos (g := gIt n) (fun x => (gIt_bd n x).1) (T := T') (t := t) N
          show 0 ≤ sumN (fun r => tC (gIt r) T' t N) n + tC (gIt n) T' t N
          omega
       exact this 64
      omega
     have hcb : sumN (fun r => tC (gIt r) T t N) 64 ≤ 18446744073709551615 := by
      rw [← S.cnt]
      have : s'.M 6 = _ := h2
      rw [S.cnt] at this
      by_cases g : sumN (fun r => tC (gIt r) T t N) 64 ≤ 18446744073709551615
      · rw [S.cnt]; exact g
      · exfalso
        -- the sum is at most 64 times the spots
        have hle : ∀ n, sumN (fun r => tC (gIt r) T t N) n ≤ n * N := by
         intro n
         induction n with
         | zero => show (0 : Int) ≤ _; simp
         | succ n ih =>
           have : ∀ m : Nat, tC (gIt n) T t m ≤ m := by
            intro m
            induction m with
            | zero => exact Int.le_refl _
            | succ m ihm =>
              have := (gIt_bd n (T (plAt t m))).2
              show tC (gIt n) T t m + _ ≤ _
              omega
           have := this N
           show sumN _ n + tC (gIt n) T t N ≤ _
           rw [show ((n + 1 : Nat) : Int) * (N : Int) = (n : Int) * N + N by rw [Int.natCast_add, Int.add_mul]; simp]
           omega
        have := hle 64
        have := plSpots_bd t
        have := K.hN
        omega
     refine ⟨rln, rnow, rp, ⟨R.rep, fun p hp2 hpb2 => ?_, rit, by rw [h3, ← Int.add_assoc]; exact hnd.1, rodd, rwd, ?_, fun r => ?_⟩, by omega, by omega, fun p hp2 hpb2 => ?_⟩
     · rw [h4]
       by_cases e : p.is z.p
       · rw [Spt.is_eq e, Tab.set_same]; exact .inl rfl
       · rw [Tab.set_ne _ e]; exact S.sl p hp2 hpb2
     · rw [h2, S.cnt, hsum64]; omega
     · rw [hsum, hnd.2, ← S.bal r]
       have : gIt r (T z.p) = if (T z.p).2 = (r : Int) then 1 else 0 := by
        unfold gIt
        by_cases c : (T z.p).2 = (r : Int)
        · rw [if_pos ⟨c, by omega⟩, if_pos c]
        · rw [if_neg fun x => c x.1, if_neg c]
       rw [this]; omega
     · rw [← keyo p hp2 hpb2, h4]; rfl
structure MaR (t b qb mo : Int) (ks : List ByteArray) (N : Nat) (C : Nat → Int) (T0 : Tab) (s0 : AW) (lost0 : Int) (c : Nat) (y : AW) (z : Mvm) (T : Tab) : Prop where
 run : runN mvOver (mvStep mo) 9000 (s0, mvNew t qb) = (c, y, z)
 ov : mvOver z = true
 S : MaS t b ks N C y T (lost0 + z.lost)
 l0 : 0 ≤ z.lost
 l1 : z.lost ≤ miC T0 b qb 4
 old : ∀ p : Spt, p.ok → p.b = b → T p = if p.q = qb then (0, 0) else T0 p
theorem ma_run {mo : Int} (K : MaC t b qb ks N T0) (S : MaS t b ks N C s0 T0 lost0) (hl0 : 0 ≤ lost0) (hl1 : lost0 ≤ 1000) (hmo : mo ≤ 21) : ∃ c y z T, MaR t b qb mo ks N C T0 s0 lost0 c y z T := by
 have b0 := K.b0
 have b1 := K.b1
 have e0 : mvNew t qb = ⟨1, 0, b + 1, ⟨b, qb, 0⟩, 0, 0, rm0, sp20, [], ⟨3, 0⟩, ⟨3, 0⟩⟩ := by
  have := K.q0
  have := K.q1
  unfold mvNew
  rw [K.ho, K.hn, if_neg (by omega)]
 have H0 : MaI t b qb ks N C T0 s0 lost0 0 s0 T0 (mvNew t qb) := by
  rw [e0]
  refine ⟨rfl, rfl, rfl, by rw [Int.add_zero]; exact S, Int.le_refl _, Int.le_refl _, fun p hp hb => ?_⟩
  rw [if_neg fun e => by have := e.2; have := hp.s0; omega]
 obtain ⟨n, y, z, T, c1, g, H⟩ := mv_four (mo := mo) (L := 21) hmo (by decide) (MaI t b qb ks N C T0 s0 lost0) (fun i s T z hi h => h.step K hl0 hl1 hi) 4 0 s0 T0 _ rfl H0
 have hov : mvOver z = true := by unfold mvOver; rw [H.ln]; rfl
 refine ⟨n, y, z, T, g.fin (by omega) hov, hov, H.S, H.l0, H.l1, fun p hp hb => ?_⟩
 have h3 := hp.s1
 rw [H.old p hp hb]
 by_cases c : p.q = qb
 · rw [if_pos ⟨c, by omega⟩, if_pos c]
 · rw [if_neg fun e => c e.1, if_neg c]
end
end
section
set_option linter.unusedVariables false
open Go.RowKit
theorem fnvSize_up {b : Int} (b0 : 1 ≤ b) (b1 : b ≤ 3) : fnvSize (b + 1) = 2 * fnvSize b ∧ 2 ≤ fnvSize b ∧ fnvSize b ≤ 8 := by
 have h : b = 1 ∨ b = 2 ∨ b = 3 := by omega
 rcases h with rfl | rfl | rfl <;> decide
theorem Spt.ok.far {p : Spt} (hp : p.ok) {b : Int} (b0 : 1 ≤ b) (b1 : b ≤ 3) (h : p.b ≠ b) : p.tags + 8 ≤ 4096 + 8 * fnvSize b ∨ 4096 + 16 * fnvSize b ≤ p.tags := by
 have h1 := hp.tags.2.2
 have h2 := hp.q0
 have h3 := hp.q1
 by_cases c : p.b < b
 · have := fnvSize_dbl hp.b0 c (by omega); omega
 · have := fnvSize_dbl b0 (show b < p.b by omega) hp.b1; omega
theorem Fil.out {b : Int} {ks : List ByteArray} {M : Int → Int} (F : Fil b ks M) {p : Spt} (hp : p.ok) (h : p.b ≠ b) : M p.tags = 0 ∧ M p.item = 0 := by
 have h1 := hp.far F.b0 F.b1 h
 have h2 := Spt.item_8 hp
 have h3 := hp.tags
 have := hp.s0
 have := hp.s1
 exact ⟨F.oth _ (by omega) (by omega), F.oth _ (by omega) (by omega)⟩
end
section
set_option linter.unusedVariables false
open Go.RowKit Go.Shelf
def bC (T : Tab) (b qb : Int) (r : Nat) : Nat → Int
 | 0 => 0
 | n + 1 => bC T b qb r n + gAt r (T ⟨b, qb, n⟩)
def empN (T : Tab) (b qb : Int) : Nat → Tab
 | 0 => T
 | n + 1 => (empN T b qb n).set ⟨b, qb, n⟩ (0, 0)
theorem gAt_0 (r : Nat) : gAt r (0, 0) = 0 := by unfold gAt; rw [if_neg (by dsimp only; omega)]
theorem gAt_bd (r : Nat) (x : Int × Int) : 0 ≤ gAt r x ∧ gAt r x ≤ 1 := by unfold gAt; split <;> omega
theorem empN_at {T : Tab} {b qb : Int} {p : Spt} (hp : p.ok) : ∀ n : Nat, empN T b qb n p = if p.b = b ∧ p.q = qb ∧ p.s < n then (0, 0) else T p
 | 0 => by rw [if_neg (by have := hp.s0; omega)]; rfl
 | n + 1 => by
   unfold empN
   by_cases c : p.is ⟨b, qb, n⟩
   · have h1 := c.1
     have h2 := c.2.1
     have h3 := c.2.2
     dsimp only at h1 h2 h3
     rw [if_pos (by omega), Spt.is_eq c, Tab.set_same]
   · rw [Tab.set_ne _ c, empN_at hp n]
     by_cases d : p.b = b ∧ p.q = qb ∧ p.s < n
     · rw [if_pos d, if_pos (by omega)]
     · rw [if_neg d, if_neg fun e => d ⟨e.1, e.2.1, ?_⟩]
       have : p.s ≠ n := fun x => c ⟨e.1, e.2.1, x⟩
       have := e.2.2
       omega
theorem empN_sum {T : Tab} {b qb : Int} {r Nb : Nat} (b0 : 1 ≤ b) (b1 : b ≤ 12) (q0 : 0 ≤ qb) (q1 : qb < fnvSize b) (hN : (Nb : Int) = plSpots b) : ∀ n : Nat, n ≤ 4 → tC (gAt r) (empN T b qb n) b Nb = tC (gAt r) T b Nb - bC T b qb r n
 | 0, _ => by show _ = _ - (0 : Int); rw [Int.sub_zero]; rfl
 | n + 1, hn => by
   have hok : (⟨b, qb, (n : Int)⟩ : Spt).ok := ⟨b0, b1, q0, q1, by dsimp only; omega, by dsimp only; omega⟩
   show tC (gAt r) ((empN T b qb n).set ⟨b, qb, n⟩ (0, 0)) b Nb = _ - (bC T b qb r n + gAt r (T ⟨b, qb, n⟩))
   rw [tC_set hN hok (.inl (plOld_one b0 b1).symm), empN_sum b0 b1 q0 q1 hN n (by omega), gAt_0, empN_at hok n, if_neg (by dsimp only; omega)]
   omega
theorem MaR.at {t b qb mo lost0 : Int} {ks : List ByteArray} {N : Nat} {C : Nat → Int} {T0 T : Tab} {s0 y : AW} {c : Nat} {z : Mvm} (K : MaC t b qb ks N T0) (R : MaR t b qb mo ks N C T0 s0 lost0 c y z T) {r Nb : Nat} (hN : (Nb : Int) = plSpots b) :
 tC (gAt r) T b Nb = tC (gAt r) T0 b Nb - bC T0 b qb r 4 := by
 have b0 := K.b0
 have b1 := K.b1
 rw [← empN_sum b0 (by omega) K.q0 K.q1 hN 4 (Nat.le_refl 4)]
 refine tC_congr fun i hi => ?_
 have hok := plAt_ok b i
 have hb : (plAt b i).b = b := by
  rcases plAt_tab (t := b) (n := i) (by omega) with e | ⟨e, e2⟩
  · rw [e, plOld_one b0 (by omega)]
  · exact absurd (plNow_one b0 (by omega)) e2
 rw [R.old _ hok hb, empN_at hok 4]
 have := hok.s1
 by_cases x : (plAt b i).q = qb
 · rw [if_pos x, if_pos ⟨hb, x, by omega⟩]
 · rw [if_neg x, if_neg fun e => x e.2.1]
theorem Fil.rep {b : Int} {ks : List ByteArray} {M : Int → Int} (F : Fil b ks M) : Rep M (tabOf M) := Rep.of fun p hp => by
 by_cases c : p.b = b
 · exact F.word p hp c
 · rw [(F.out hp c).1]; decide
theorem Fil.stT {b t : Int} {ks : List ByteArray} {M : Int → Int} (F : Fil b ks M) (ho : plOld t = b) {p : Spt} (hp : p.ok) : StT t ks p (tabOf M p) := by
 by_cases c : p.b = b
 · rcases F.slot p hp c with ⟨h1, h2⟩ | ⟨r, k, h1, h2, h3, h4⟩
   · left
     show (twTag (M p.tags) p.s, M p.item) = (0, 0)
     rw [h1, h2]
   · refine .inr ⟨r, k, h1, h2, h3, ?_⟩
     have hib : plIn t b := .inl ho.symm
     rw [c, plPlaces_mem hib]
     rw [plPair_in F.b0 (by have := F.b1; omega)] at h4
     simp only [List.mem_cons, List.not_mem_nil, or_false, Prod.mk.injEq] at h4
     exact h4.imp (fun x => x.2) fun x => x.2
 · left
   have e := F.out hp c
   show (twTag (M p.tags) p.s, M p.item) = (0, 0)
   rw [e.1, e.2]
   have a5 := hp.s0
   have a6 := hp.s1
   have cs : p.s = 0 ∨ p.s = 1 ∨ p.s = 2 ∨ p.s = 3 := by omega
   rcases cs with e | e | e | e <;> rw [e] <;> rfl
theorem tabOf_upd {M : Int → Int} {a v : Int} (ha : a < 4096) {p : Spt} (hp : p.ok) : tabOf (upd M a v) p = tabOf M p := by
 have h1 := hp.tags
 have h2 := hp.item
 unfold tabOf
 rw [upd_other _ (by omega), upd_other _ (by omega)]
theorem MaS.start {b t v : Int} {ks : List ByteArray} {N : Nat} {s0 : AW} (F : FulS b ks s0) (ho : plOld t = b) (hv : v = sumN (fun r => tC (gIt r) (tabOf s0.M) t N) 64) :
 MaS t b ks N (fun r => tC (gIt r) (tabOf s0.M) t N) (awStore 6 v (awStore 2 t s0)) (tabOf s0.M) 0 := by
 have hM : (awStore 6 v (awStore 2 t s0)).M = upd (upd s0.M 2 t) 6 v := rfl
 have hz := fnvSize_up F.fil.b0 F.fil.b1
 refine ⟨?_, fun p hp _ => F.fil.stT ho hp, F.it, NtI.start F.nt, fun i hi => ?_, ?_, ?_, fun r => ?_⟩
 · rw [hM]
   exact F.fil.rep.low fun a h1 h2 => by rw [upd_other _ (by omega), upd_other _ (by omega)]
 · rw [hM, upd_other _ (by omega), upd_other _ (by omega), F.fil.oth _ (by omega) (.inl (by omega))]; rfl
 · rw [hM, upd_other _ (by decide), upd_same]
 · rw [hM, upd_same]; exact hv
 · show tC (gIt r) (tabOf s0.M) t N + drC 1 s0.nt r = _
   rw [F.nt]
   show _ + (0 : Int) = _
   omega
theorem MaS.stAt {t b lost : Int} {ks : List ByteArray} {N : Nat} {C : Nat → Int} {s : AW} {T : Tab} (S : MaS t b ks N C s T lost) {n : Nat} (hn : (n : Int) < plSpots t) : StAt t ks s.M (plAt t n) := by
 have hok := plAt_ok t n
 have h := S.sl _ hok (plAt_tab hn)
 have h1 := S.rep.tg _ hok
 have h2 := S.rep.it _ hok
 rcases h with e | ⟨r, k, g1, g2, g3, g4⟩
 · left; rw [h1, h2, e]; exact ⟨rfl, rfl⟩
 · right; exact ⟨r, k, g1, by rw [h2]; exact g2, by rw [h1]; exact g3, g4⟩
theorem Rep.tC_eq {M : Int → Int} {T : Tab} (R : Rep M T) {g : Int × Int → Int} (t : Int) (n : Nat) : tC g (tabOf M) t n = tC g T t n := tC_congr fun i _ => by
 have := R.val (plAt_ok t i)
 unfold tabOf
 rw [this]
section
variable {O : Om} {w : World} {B : Wb} {b g u q y : Int} {s : AW}
theorem PW.setWay (h : PW w O B ⟨b, g, u, q, y⟩ s) (hhi : ∀ j, O j ≠ 0 → j < w.heap.size) (v : Int) : PW (w.setCell ⟨B.p, 7, none⟩ (.int .i64 v)) O B ⟨b, g, u, q, v⟩ s ∧ Ext (fun t => t = 1) O w O (w.setCell ⟨B.p, 7, none⟩ (.int .i64 v)) := by
 have e : Ext (fun t => t = 1) O w O (w.setCell ⟨B.p, 7, none⟩ (.int .i64 v)) := Ext.of_set hhi h.o (by decide) rfl
 have hc : ∀ i, i ≠ 7 → (w.setCell ⟨B.p, 7, none⟩ (.int .i64 v)).cell? ⟨B.p, i, none⟩ = w.cell? ⟨B.p, i, none⟩ := fun i hi => World.cell?_setCell_other _ _ _ _ (by simp; try omega)
 have k := h.wo
 exact ⟨⟨h.o, ⟨(hc 0 (by omega)).trans k.c0, (hc 1 (by omega)).trans k.c1, (hc 2 (by omega)).trans k.c2, (hc 3 (by omega)).trans k.c3, (hc 4 (by omega)).trans k.c4, (hc 5 (by omega)).trans k.c5, (hc 6 (by omega)).trans k.c6, World.cell?_setCell_same _ _ _ k.c7, fun i hi => (hc _ (by omega)).trans (k.tk i hi), (hc 72 (by omega)).trans k.ho, fun i => (World.frozen?_setCell _ _ _ _).trans (k.fr i), by simpa using k.lt⟩, h.ce.ext e (by decide) (by decide), h.ar.ext e (by decide), h.no.ext e (by decide)⟩, e⟩
end
end
end Go.Proofs.YtfnmdafpdcgcmaaGreat
