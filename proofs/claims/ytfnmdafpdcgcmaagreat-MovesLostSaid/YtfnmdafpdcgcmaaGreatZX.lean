/- A Move by itself, plain: what becomes of one slot. A Move by itself, plain: its four slots; what it notes. MovesLost, plain: what a Move by itself of a filled bucket comes to, where the new table is full, or empty. MovesLost, plain: the world as the Move begins. -/
import Derived.Test.YtfnmdafpdcgcmaaGreatZY
import Derived.Test.YtfnmdafpdcgcmaaGreatZ5
import Derived.Test.YtfnmdafpdcgcmaaGreatZM
import Derived.Test.YtfnmdafpdcgcmaaGreatZL
import Derived.Test.YtfnmdafpdcgcmaaGreatZS
namespace Go.Proofs.YtfnmdafpdcgcmaaGreat
set_option linter.unusedSimpArgs false
section
set_option linter.unusedVariables false
open Go.RowKit
section
variable {lost now tag ref mo : Int} {p d : Spt} {rm : Rmm} {m : List Int} {o u : Otm}
theorem mv_room : ∀ (n : Nat) (s s' : AW) (y y' : Rmm) (z : Mvm), z.ln = 3 → z.rm = y → n ≠ 0 → Gos rmE (rmStep mo) n (s, y) (s', y') → y'.ln = 0 →
 Gos mvOver (mvStep mo) n (s, z) (s', if y'.is = true then ⟨4, z.lost, z.now, z.p, z.tag, z.ref, y', y'.p, mk2 z.p y'.p, ⟨0, 0⟩, ptNew z.tag z.ref⟩ else ⟨8, z.lost, z.now, z.p, z.tag, z.ref, y', sp20, [z.p.ver], ⟨0, 0⟩, z.u⟩)
 | 0, _, _, _, _, _, _, _, h, _, _ => absurd rfl h
 | 1, s, s', y, y', z, ln, hy, _, g, l0 => by
   have e : rmStep mo (s, y) = (s', y') := (show (s', y') = rmStep mo (s, y) from g.2).symm
   refine Gos.one (by unfold mvOver; dsimp only; rw [ln]; rfl) ?_
   rw [mvStep_3 _ _ _ ln, hy, e]
   dsimp only
   rw [if_pos l0]
 | n + 2, s, s', y, y', z, ln, hy, _, g, l0 => by
   obtain ⟨g1, g2⟩ := g
   have h1 : (rmStep mo (s, y)).2.ln ≠ 0 := fun e => by
    have := g2.1
    unfold rmE at this
    rw [e] at this
    cases this
   refine ⟨by unfold mvOver; dsimp only; rw [ln]; rfl, ?_⟩
   rw [mvStep_3 _ _ _ ln, hy, if_neg h1]
   exact mv_room (n + 1) (rmStep mo (s, y)).1 s' (rmStep mo (s, y)).2 y' ⟨3, z.lost, z.now, z.p, z.tag, z.ref, (rmStep mo (s, y)).2, z.d, z.m, z.o, z.u⟩ rfl rfl (by omega) g2 l0
theorem mv_marks4 : ∀ (l : List Int) (s : AW), l ≠ [] → ∃ s', Gos mvOver (mvStep mo) l.length (s, ⟨4, lost, now, p, tag, ref, rm, d, l, o, u⟩) (s', ⟨5, lost, now, p, tag, ref, rm, d, [], o, u⟩) ∧ s'.M = addL l s.M ∧ Kp s s'
 | [], s, h => absurd rfl h
 | [a], s, _ => by
   refine ⟨awAdd a 1 s, ⟨rfl, ?_⟩, rfl, Kp.add _ _ _⟩
   show (_, _) = mvStep mo _
   rw [mvStep_4 _ _ _ rfl]
   rfl
 | a :: b :: l, s, _ => by
   obtain ⟨s', g, e, kp⟩ := mv_marks4 (b :: l) (awAdd a 1 s) (by simp)
   refine ⟨s', ⟨rfl, ?_⟩, e, (Kp.add _ _ _).trans kp⟩
   rw [mvStep_4 _ _ _ rfl]
   exact g
theorem mv_marks7 : ∀ (l : List Int) (s : AW), l ≠ [] → ∃ s', Gos mvOver (mvStep mo) l.length (s, ⟨7, lost, now, p, tag, ref, rm, d, l, o, u⟩) (s', mvNext ⟨7, lost, now, p, tag, ref, rm, d, [], o, u⟩) ∧ s'.M = addL l s.M ∧ Kp s s'
 | [], s, h => absurd rfl h
 | [a], s, _ => by
   refine ⟨awAdd a 1 s, ⟨rfl, ?_⟩, rfl, Kp.add _ _ _⟩
   show (_, _) = mvStep mo _
   rw [mvStep_7 _ _ _ rfl]
   rfl
 | a :: b :: l, s, _ => by
   obtain ⟨s', g, e, kp⟩ := mv_marks7 (b :: l) (awAdd a 1 s) (by simp)
   refine ⟨s', ⟨rfl, ?_⟩, e, (Kp.add _ _ _).trans kp⟩
   rw [mvStep_7 _ _ _ rfl]
   exact g
theorem mv_out5 (s : AW) : ∃ s' o', Gos mvOver (mvStep mo) 3 (s, ⟨5, lost, now, p, tag, ref, rm, d, m, ⟨0, 0⟩, ⟨0, 0⟩⟩) (s', ⟨6, lost, now, p, tag, ref, rm, d, m, o', ⟨0, 0⟩⟩) ∧ s'.M = outM s.M p ∧ Kp s s' := by
 have e1 : mvStep mo (s, ⟨5, lost, now, p, tag, ref, rm, d, m, ⟨0, 0⟩, ⟨0, 0⟩⟩) = (awLoad p.tags s, ⟨5, lost, now, p, tag, ref, rm, d, m, ⟨1, s.M p.tags⟩, ⟨0, 0⟩⟩) := by rw [mvStep_5 _ _ _ rfl]; rfl
 have e2 : ∀ s wd, mvStep mo (s, ⟨5, lost, now, p, tag, ref, rm, d, m, ⟨1, wd⟩, ⟨0, 0⟩⟩) = (awStore p.tags (twWith wd p.s 0) s, ⟨5, lost, now, p, tag, ref, rm, d, m, ⟨2, wd⟩, ⟨0, 0⟩⟩) := fun s wd => by rw [mvStep_5 _ _ _ rfl]; rfl
 have e3 : ∀ s wd, mvStep mo (s, ⟨5, lost, now, p, tag, ref, rm, d, m, ⟨2, wd⟩, ⟨0, 0⟩⟩) = (awStore p.item 0 s, ⟨6, lost, now, p, tag, ref, rm, d, m, ⟨3, wd⟩, ⟨0, 0⟩⟩) := fun s wd => by rw [mvStep_5 _ _ _ rfl]; rfl
 exact ⟨_, _, (Gos.one rfl e1).trans ((Gos.one rfl (e2 _ _)).trans (Gos.one rfl (e3 _ _))), rfl, (Kp.load _ _).trans ((Kp.store _ _ _).trans (Kp.store _ _ _))⟩
theorem mv_put6 (s : AW) (hd : d.ok) : ∃ s' u', Gos mvOver (mvStep mo) 3 (s, ⟨6, lost, now, p, tag, ref, rm, d, m, o, ⟨0, 0⟩⟩) (s', ⟨7, lost, now, p, tag, ref, rm, d, mk2 p d, o, u'⟩) ∧ s'.M = putM s.M d tag ref ∧ Kp s s' := by
 have hne : ∀ s : AW, (awStore d.item ref s).M d.tags = s.M d.tags := fun s => upd_other _ fun x => Spt.item_tags hd hd x.symm
 have e1 : mvStep mo (s, ⟨6, lost, now, p, tag, ref, rm, d, m, o, ⟨0, 0⟩⟩) = (awStore d.item ref s, ⟨6, lost, now, p, tag, ref, rm, d, m, o, ⟨1, 0⟩⟩) := by rw [mvStep_6 _ _ _ rfl]; rfl
 have e2 : ∀ s, mvStep mo (s, ⟨6, lost, now, p, tag, ref, rm, d, m, o, ⟨1, 0⟩⟩) = (awLoad d.tags s, ⟨6, lost, now, p, tag, ref, rm, d, m, o, ⟨2, s.M d.tags⟩⟩) := fun s => by rw [mvStep_6 _ _ _ rfl]; rfl
 have e3 : ∀ s wd, mvStep mo (s, ⟨6, lost, now, p, tag, ref, rm, d, m, o, ⟨2, wd⟩⟩) = (awStore d.tags (twWith wd d.s tag) s, ⟨7, lost, now, p, tag, ref, rm, d, mk2 p d, o, ⟨3, wd⟩⟩) := fun s wd => by rw [mvStep_6 _ _ _ rfl]; rfl
 refine ⟨_, _, (Gos.one rfl e1).trans ((Gos.one rfl (e2 _)).trans (Gos.one rfl (e3 _ _))), ?_, (Kp.store _ _ _).trans ((Kp.load _ _).trans (Kp.store _ _ _))⟩
 · show upd (upd s.M d.item ref) d.tags (twWith ((awStore d.item ref s).M d.tags) d.s tag) = putM s.M d tag ref
   rw [hne]
   rfl
theorem mv_fail8 (s : AW) : ∃ s' o', Gos mvOver (mvStep mo) 6 (s, ⟨8, lost, now, p, tag, ref, rm, d, [p.ver], ⟨0, 0⟩, u⟩) (s', mvNext ⟨11, lost + 1, now, p, tag, ref, rm, d, [], o', u⟩) ∧
 s'.M = upd (addL [p.ver] (outM (addL [p.ver] s.M) p)) 6 ((addL [p.ver] (outM (addL [p.ver] s.M) p) 6 + 18446744073709551615) % 18446744073709551616) ∧ s'.it = s.it ∧ s.n ≤ s'.n ∧
 ∃ n2 h2 n3 h3, s'.nt = ntAdd (ntAdd s.nt ⟨n2, h2, 1, ref, p.b, p.q, p.s, 0⟩) ⟨n3, h3, 2, ref, p.b, p.q, p.s, 0⟩ ∧ s.n ≤ n2 ∧ n2 ≤ n3 ∧ n3 ≤ s'.n := by
 have e1 : mvStep mo (s, ⟨8, lost, now, p, tag, ref, rm, d, [p.ver], ⟨0, 0⟩, u⟩) = (awAdd p.ver 1 s, ⟨9, lost, now, p, tag, ref, rm, d, [], ⟨0, 0⟩, u⟩) := mvStep_8 _ _ _ rfl
 have e2 : ∀ s, mvStep mo (s, ⟨9, lost, now, p, tag, ref, rm, d, [], ⟨0, 0⟩, u⟩) = (awLoad p.tags s, ⟨9, lost, now, p, tag, ref, rm, d, [], ⟨1, s.M p.tags⟩, u⟩) := fun s => by rw [mvStep_9 _ _ _ rfl]; rfl
 have e3 : ∀ s wd, mvStep mo (s, ⟨9, lost, now, p, tag, ref, rm, d, [], ⟨1, wd⟩, u⟩) = (awNote 1 ref p.b p.q p.s 0 (awStore p.tags (twWith wd p.s 0) s), ⟨9, lost, now, p, tag, ref, rm, d, [], ⟨2, wd⟩, u⟩) := fun s wd => by rw [mvStep_9 _ _ _ rfl]; rfl
 have e4 : ∀ s wd, mvStep mo (s, ⟨9, lost, now, p, tag, ref, rm, d, [], ⟨2, wd⟩, u⟩) = (awStore p.item 0 s, ⟨10, lost, now, p, tag, ref, rm, d, [p.ver], ⟨3, wd⟩, u⟩) := fun s wd => by rw [mvStep_9 _ _ _ rfl]; rfl
 have e5 : ∀ s o, mvStep mo (s, ⟨10, lost, now, p, tag, ref, rm, d, [p.ver], o, u⟩) = (awAdd p.ver 1 s, ⟨11, lost, now, p, tag, ref, rm, d, [], o, u⟩) := fun s o => mvStep_10 _ _ _ rfl
 have e6 : ∀ s o, mvStep mo (s, ⟨11, lost, now, p, tag, ref, rm, d, [], o, u⟩) = (awNote 2 ref p.b p.q p.s 0 (awAdd 6 18446744073709551615 s), mvNext ⟨11, lost + 1, now, p, tag, ref, rm, d, [], o, u⟩) := fun s o => mvStep_11 _ _ _ rfl
 refine ⟨_, _, (Gos.one rfl e1).trans ((Gos.one rfl (e2 _)).trans ((Gos.one rfl (e3 _ _)).trans ((Gos.one rfl (e4 _ _)).trans ((Gos.one rfl (e5 _ _)).trans (Gos.one rfl (e6 _ _)))))), ?_⟩
 · refine ⟨rfl, rfl, ?_, s.n + 1 + 1 + 1, s.ho, s.n + 1 + 1 + 1 + 1 + 1 + 1, s.ho, rfl, ?_, ?_, ?_⟩
   · show s.n ≤ s.n + 1 + 1 + 1 + 1 + 1 + 1; omega
   · omega
   · omega
   · show _ ≤ s.n + 1 + 1 + 1 + 1 + 1 + 1; omega
end
structure MvR (s : AW) (T : Tab) (z : Mvm) (s' : AW) (z' : Mvm) (T' : Tab) : Prop where
 ln : z'.ln = if z.p.s + 1 = 4 then 0 else 1
 now : z'.now = z.now
 p : z'.p = ⟨z.p.b, z.p.q, z.p.s + 1⟩
 rep : Rep s'.M T'
 par : Par s.M s'.M
 it : s'.it = s.it
 up : s.n ≤ s'.n
 oth : ∀ a, a < 64 ∨ 4294967296 < a → a ≠ 6 → s'.M a = s.M a
 res : ((T z.p).1 = 0 ∧ T' = T ∧ s'.M 6 = s.M 6 ∧ s'.nt = s.nt ∧ z'.lost = z.lost) ∨
  ((T z.p).1 ≠ 0 ∧ s'.M 6 = s.M 6 ∧ s'.nt = s.nt ∧ z'.lost = z.lost ∧ ∃ (T1 : Tab) (d : Spt) (h : Int), h = fnvHash (itKey s.it (T z.p).2) ∧ Hopd z.now T T1 ∧ d.ok ∧ d.b = z.now ∧ (d.q = fnvBucket h z.now ∨ d.q = fnvOther (fnvBucket h z.now) (fnvTag h) z.now) ∧ T1 d = (0, 0) ∧ T' = (T1.set z.p (0, 0)).set d (T z.p)) ∨
  ((T z.p).1 ≠ 0 ∧ s'.M 6 = (s.M 6 + 18446744073709551615) % 18446744073709551616 ∧ z'.lost = z.lost + 1 ∧ T' = T.set z.p (0, 0) ∧
    (∀ k, 0 ≤ k → k ≤ 3 → (T ⟨z.now, fnvBucket (fnvHash (itKey s.it (T z.p).2)) z.now, k⟩).1 ≠ 0) ∧
    ∃ n1 h1 n2 h2 n3 h3, s'.nt = ntAdd (ntAdd (ntAdd s.nt ⟨n1, h1, 3, 0, 0, 0, 0, 0⟩) ⟨n2, h2, 1, (T z.p).2, z.p.b, z.p.q, z.p.s, 0⟩) ⟨n3, h3, 2, (T z.p).2, z.p.b, z.p.q, z.p.s, 0⟩ ∧ s.n ≤ n1 ∧ n1 ≤ n2 ∧ n2 ≤ n3 ∧ n3 ≤ s'.n)
theorem mv_slot {mo : Int} {L : Nat} {T : Tab} {s : AW} {z : Mvm} (R : Rep s.M T) (ln : z.ln = 1) (hp : z.p.ok) (hb : z.p.b ≠ z.now) (n0 : 1 ≤ z.now) (n1 : z.now ≤ 12) (hmo : mo ≤ L) (h2 : 2 ≤ L) (hT : FreeOk z.now T)
 (hI : (T z.p).1 ≠ 0 → 1 ≤ (T z.p).2 ∧ (T z.p).2 ≤ 9223372036854775807) : ∃ n s' z' T', n ≤ 14 + 13 * L ∧ Gos mvOver (mvStep mo) n (s, z) (s', z') ∧ MvR s T z s' z' T' := by
 obtain ⟨ln', lost, now, p, tag, ref, rm, d, m, o, u⟩ := z
 dsimp only at ln hp hb n0 n1 hT hI
 subst ln
 have e1 := mvStep_1 mo s ⟨1, lost, now, p, tag, ref, rm, d, m, o, u⟩ rfl
 dsimp only at e1
 rw [R.tg p hp] at e1
 by_cases ht : (T p).1 = 0
 · rw [if_pos ht] at e1
   refine ⟨1, _, _, T, by omega, Gos.one rfl e1, rfl, rfl, rfl, R, Par.refl _, rfl, (Kp.load _ _).n, fun _ _ _ => rfl, .inl ⟨ht, rfl, rfl, rfl, rfl⟩⟩
 · rw [if_neg ht] at e1
   obtain ⟨r0, r1⟩ := hI ht
   have htb := twTag_bd (s.M p.tags) p.s
   rw [R.tg p hp] at htb
   obtain ⟨s1, hs1⟩ : ∃ x, x = awLoad p.tags s := ⟨_, rfl⟩
   have k1 : Kp s s1 := by rw [hs1]; exact Kp.load _ _
   have m1 : s1.M = s.M := by rw [hs1]; rfl
   rw [← hs1] at e1
   have e2 := mvStep_2 mo s1 ⟨2, lost, now, p, (T p).1, ref, rm, d, m, o, u⟩ rfl
   dsimp only at e2
   rw [m1, R.it p hp, IntWalk.wrap64_in _ (by omega), k1.it] at e2
   obtain ⟨h, hh⟩ : ∃ h, h = fnvHash (itKey s.it (T p).2) := ⟨_, rfl⟩
   rw [← hh] at e2
   obtain ⟨s2, hs2⟩ : ∃ x, x = awLoad p.item s1 := ⟨_, rfl⟩
   have k2 : Kp s s2 := by rw [hs2]; exact k1.trans (Kp.load _ _)
   have m2 : s2.M = s.M := by rw [hs2]; exact m1
   rw [← hs2] at e2
   have hhb := fnvHash_bd (itKey s.it (T p).2)
   rw [← hh] at hhb
   obtain ⟨n, s3, r3, T1, q1, q2, g, r⟩ := rm_run (mo := mo) (L := L) (s := s2) (T := T) (h := h) (b := now) (by rw [m2]; exact R) n0 n1 hhb.1 hhb.2 hmo h2 hT
   have G := mv_room (mo := mo) n s2 s3 _ r3 ⟨3, lost, now, p, (T p).1, (T p).2, rmNew now h, d, m, o, u⟩ rfl rfl (by omega) g r.ln
   dsimp only at G
   have G2 := (Gos.one (over := mvOver) (step := mvStep mo) (z := (s, ⟨1, lost, now, p, tag, ref, rm, d, m, o, u⟩)) rfl e1).trans ((Gos.one (over := mvOver) (step := mvStep mo) rfl e2).trans G)
   have up := r.up
   have up2 := k2.n
   have ro := r.oth
   have rp := r.par
   rw [m2] at ro rp
   have c1 := hp.tags
   have c2 := hp.item
   have c3 := hp.ver
   rcases r.res with ⟨is, nt, dok, db, dq, dz, hd⟩ | ⟨is, hM, hTT, hfull, m1', h1', nt, u1, u2⟩
   · rw [if_pos is] at G2
     have hpt : ptNew (T p).1 (T p).2 = ⟨0, 0⟩ := by unfold ptNew; rw [if_pos (by omega)]
     rw [hpt] at G2
     have hml := mk2_len p r3.p
     have hmb := mk2_bd64 hp dok
     have hmn : mk2 p r3.p ≠ [] := fun e => by rw [e] at hml; simp at hml
     obtain ⟨l, hl⟩ : ∃ l, l = mk2 p r3.p := ⟨_, rfl⟩
     rw [← hl] at G2 hml hmb hmn
     obtain ⟨s4, g4, h4, k4⟩ := mv_marks4 (mo := mo) (lost := lost) (now := now) (p := p) (tag := (T p).1) (ref := (T p).2) (rm := r3) (d := r3.p) (o := ⟨0, 0⟩) (u := ⟨0, 0⟩) l s3 hmn
     obtain ⟨s5, o5, g5, h5, k5⟩ := mv_out5 (mo := mo) (lost := lost) (now := now) (p := p) (tag := (T p).1) (ref := (T p).2) (rm := r3) (d := r3.p) (m := []) s4
     obtain ⟨s6, u6, g6, h6, k6⟩ := mv_put6 (mo := mo) (lost := lost) (now := now) (p := p) (tag := (T p).1) (ref := (T p).2) (rm := r3) (m := []) (o := o5) s5 dok
     rw [← hl] at g6
     obtain ⟨s7, g7, h7, k7⟩ := mv_marks7 (mo := mo) (lost := lost) (now := now) (p := p) (tag := (T p).1) (ref := (T p).2) (rm := r3) (d := r3.p) (o := o5) (u := u6) l s6 hmn
     have kk := k4.trans (k5.trans (k6.trans k7))
     have d1 := dok.tags
     have d2 := dok.item
     have far : ∀ a, a < 4096 ∨ 4294967296 ≤ a → s6.M a = addL l s3.M a := fun a ha => by
      rw [h6, putM_oth (by omega) (by omega), h5, outM_oth (by omega) (by omega), h4]
     have oth2 : Oth s3.M s7.M := by rw [h7]; exact marks_oth hmb far
     have hTp : T1 p = T p := hd.other p hb
     refine ⟨_, s7, _, _, ?_, G2.trans (g4.trans (g5.trans (g6.trans g7))), rfl, rfl, rfl, ?_, rp.trans ?_, ?_, ?_, fun a ha _ => (ro.trans oth2) a ha, .inr (.inl ⟨ht, (ro.trans oth2) 6 (by omega), ?_, rfl, T1, r3.p, h, hh, hd, dok, db, dq, dz, rfl⟩)⟩
     · omega
     · rw [h7, h6, h5, h4]
       exact ((((r.rep.addL hmb).out hp).put dok (by omega) (by omega)).addL hmb)
     · rw [h7]; exact marks_par fun a ha => far a (.inl ha)
     · exact kk.it.trans (r.it.trans k2.it)
     · exact Int.le_trans up2 (Int.le_trans up kk.n)
     · exact kk.nt.trans (nt.trans k2.nt)
   · rw [if_neg (by rw [is]; decide)] at G2
     obtain ⟨s4, o4, g4, h4, it4, n4, na, ha, nb, hb', nt4, v1, v2, v3⟩ := mv_fail8 (mo := mo) (lost := lost) (now := now) (p := p) (tag := (T p).1) (ref := (T p).2) (rm := r3) (d := sp20) (u := u) s3
     have hvb : ∀ a ∈ [p.ver], 64 ≤ a ∧ a < 128 := fun a h => by rw [List.mem_singleton.1 h]; exact c3
     have far : ∀ a, a < 4096 ∨ 4294967296 ≤ a → outM (addL [p.ver] s3.M) p a = addL [p.ver] s3.M a := fun a ha => outM_oth (by omega) (by omega)
     have oth2 : Oth s3.M (addL [p.ver] (outM (addL [p.ver] s3.M) p)) := marks_oth hvb far
     have par2 : Par s3.M (addL [p.ver] (outM (addL [p.ver] s3.M) p)) := marks_par fun a ha => far a (.inl ha)
     have e6 : addL [p.ver] (outM (addL [p.ver] s3.M) p) 6 = s.M 6 := (ro.trans oth2) 6 (by omega)
     rw [e6] at h4
     rw [hTT] at r
     refine ⟨_, s4, _, _, ?_, G2.trans g4, rfl, rfl, rfl, ?_, fun i hi => ?_, ?_, ?_, fun a ha h6 => ?_, .inr (.inr ⟨ht, ?_, rfl, rfl, ?_, m1', h1', na, ha, nb, hb', ?_, ?_, ?_, v2, v3⟩)⟩
     · omega
     · rw [h4]
       exact (((r.rep.addL hvb).out hp).addL hvb).low fun a x1 x2 => upd_other _ (by omega)
     · rw [h4, upd_other _ (by omega)]
       exact (rp.trans par2) i hi
     · exact it4.trans (r.it.trans k2.it)
     · exact Int.le_trans up2 (Int.le_trans up n4)
     · rw [h4, upd_other _ h6]
       exact (ro.trans oth2) a ha
     · rw [h4, upd_same]
     · rw [← hh]; exact hfull
     · rw [nt4, nt, k2.nt]
     · exact Int.le_trans up2 u1
     · exact Int.le_trans u2 v1
end
section
set_option linter.unusedVariables false
open Go.RowKit
structure MvPr (s : AW) (T : Tab) (z : Mvm) : Prop where
 R : Rep s.M T
 ln : z.ln = 1
 p : z.p.ok
 nb : z.p.b ≠ z.now
 n0 : 1 ≤ z.now
 n1 : z.now ≤ 12
 hT : FreeOk z.now T
 hI : (T z.p).1 ≠ 0 → 1 ≤ (T z.p).2 ∧ (T z.p).2 ≤ 9223372036854775807
theorem mv_four {mo : Int} {L : Nat} (hmo : mo ≤ L) (h2 : 2 ≤ L) (J : Nat → AW → Tab → Mvm → Prop) (hJ : ∀ i s T z, i < 4 → J i s T z → MvPr s T z ∧ ∀ s' z' T', MvR s T z s' z' T' → J (i + 1) s' T' z') :
 ∀ (k i : Nat) (s : AW) (T : Tab) (z : Mvm), i + k = 4 → J i s T z → ∃ n s' z' T', n ≤ k * (14 + 13 * L) ∧ Gos mvOver (mvStep mo) n (s, z) (s', z') ∧ J 4 s' T' z' := by
 intro k
 induction k with
 | zero =>
   intro i s T z hi h
   have : i = 4 := by omega
   subst this
   exact ⟨0, s, z, T, by omega, rfl, h⟩
 | succ k ih =>
   intro i s T z hi h
   obtain ⟨P, step⟩ := hJ i s T z (by omega) h
   obtain ⟨n, s1, z1, T1, c1, g1, r1⟩ := mv_slot P.R P.ln P.p P.nb P.n0 P.n1 hmo h2 P.hT P.hI
   obtain ⟨m, s2, z2, T2, c2, g2, r2⟩ := ih (i + 1) s1 T1 z1 (by omega) (step s1 z1 T1 r1)
   refine ⟨n + m, s2, z2, T2, ?_, g1.trans g2, r2⟩
   rw [Nat.succ_mul]
   omega
def drC (k : Int) (l : List Nt) (r : Nat) : Int := ((l.countP fun x => x.kind == k && x.ref == (r : Int) : Nat) : Int)
theorem drC_append (k : Int) (l m : List Nt) (r : Nat) : drC k (l ++ m) r = drC k l r + drC k m r := by unfold drC; rw [List.countP_append]; omega
theorem drC_one (k : Int) (x : Nt) (r : Nat) : drC k [x] r = if x.kind = k ∧ x.ref = (r : Int) then 1 else 0 := by
 unfold drC
 by_cases h : x.kind = k ∧ x.ref = (r : Int)
 · rw [if_pos h, List.countP_cons_of_pos (by simp [h.1, h.2])]; rfl
 · rw [if_neg h, List.countP_cons_of_neg (by simpa using h)]; rfl
structure DrOk (l : List Nt) : Prop where
 ref : ∀ x ∈ l, 0 ≤ x.ref ∧ x.ref ≤ 63
 pre : ∀ (k r : Nat), drC 2 (l.take k) r ≤ drC 1 (l.take k) r
 eq : ∀ r : Nat, drC 1 l r = drC 2 l r
theorem DrOk.nil : DrOk [] := ⟨fun x h => (by cases h), fun k r => by rw [List.take_nil]; exact Int.le_refl _, fun _ => rfl⟩
theorem DrOk.three {l : List Nt} (h : DrOk l) {a b c : Nt} (ka : a.kind = 3) (kb : b.kind = 1) (kc : c.kind = 2) (ra : a.ref = 0) (rbc : c.ref = b.ref) (r0 : 0 ≤ b.ref) (r1 : b.ref ≤ 63) : DrOk (l ++ [a, b, c]) := by
 refine ⟨fun x hx => ?_, fun k r => ?_, fun r => ?_⟩
 · rcases List.mem_append.1 hx with g | g
   · exact h.ref x g
   · simp only [List.mem_cons, List.not_mem_nil, or_false] at g
     rcases g with e | e | e <;> rw [e] <;> omega
 · rw [List.take_append]
   rw [drC_append, drC_append]
   have h1 := h.pre k r
   obtain ⟨j, hj⟩ : ∃ j, j = k - l.length := ⟨_, rfl⟩
   rw [← hj]
   have hd : drC 2 ([a, b, c].take j) r ≤ drC 1 ([a, b, c].take j) r := by
    have e1 := drC_one 2 a r
    have e2 := drC_one 2 b r
    have e3 := drC_one 2 c r
    have f1 := drC_one 1 a r
    have f2 := drC_one 1 b r
    have f3 := drC_one 1 c r
    rw [if_neg (by omega)] at e1 e2 f1 f3
    match j with
    | 0 => exact Int.le_refl _
    | 1 => show drC 2 [a] r ≤ drC 1 [a] r; omega
    | 2 =>
      show drC 2 ([a] ++ [b]) r ≤ drC 1 ([a] ++ [b]) r
      rw [drC_append, drC_append, e1, e2, f1, f2]
      split <;> omega
    | j + 3 =>
      have : ([a, b, c] : List Nt).take (j + 3) = [a] ++ ([b] ++ [c]) := by simp
      rw [this, drC_append, drC_append, drC_append, drC_append, e1, e2, f1, f2, e3, f3, kb, kc, rbc]
      simp
   omega
 · have e1 := drC_one 2 a r
   have e2 := drC_one 2 b r
   have e3 := drC_one 2 c r
   have f1 := drC_one 1 a r
   have f2 := drC_one 1 b r
   have f3 := drC_one 1 c r
   rw [if_neg (by omega)] at e1 e2 f1 f3
   have : ([a, b, c] : List Nt) = [a] ++ ([b] ++ [c]) := rfl
   rw [drC_append, drC_append, this, drC_append, drC_append, drC_append, drC_append, e1, e2, f1, f2, e3, f3, h.eq r, kb, kc, rbc]
   simp
theorem drC_three {l : List Nt} {a b c : Nt} (ka : a.kind = 3) (kb : b.kind = 1) (kc : c.kind = 2) (r : Nat) : drC 1 (l ++ [a, b, c]) r = drC 1 l r + if b.ref = (r : Int) then 1 else 0 := by
 have f1 := drC_one 1 a r
 have f2 := drC_one 1 b r
 have f3 := drC_one 1 c r
 rw [if_neg (by omega)] at f1 f3
 have : ([a, b, c] : List Nt) = [a] ++ ([b] ++ [c]) := rfl
 rw [drC_append, this, drC_append, drC_append, f1, f2, f3, kb]
 simp
theorem sumN_if (x : Int) (h0 : 0 ≤ x) : ∀ n : Nat, sumN (fun r => if x = (r : Int) then 1 else 0) n = if x < n then 1 else 0
 | 0 => by rw [if_neg (by omega)]; rfl
 | n + 1 => by
   show sumN _ n + (if x = (n : Int) then 1 else 0) = _
   rw [sumN_if x h0 n]
   by_cases c : x < n
   · rw [if_pos c, if_neg (by omega), if_pos (by omega)]; rfl
   · by_cases d : x = n
     · rw [if_neg c, if_pos d, if_pos (by omega)]; rfl
     · rw [if_neg c, if_neg d, if_neg (by omega)]; rfl
structure NtI (s : AW) (lost : Int) : Prop where
 dr : DrOk s.nt
 st : ∀ x ∈ s.nt, x.step ≤ s.n
 len : (s.nt.length : Int) ≤ 3 * lost
 tot : sumN (drC 1 s.nt) 64 = lost
theorem NtI.start {s : AW} (h : s.nt = []) : NtI s 0 := by
 refine ⟨by rw [h]; exact .nil, fun x hx => (by rw [h] at hx; cases hx), by rw [h]; exact Int.le_refl _, ?_⟩
 rw [h]
 exact sumN_zero 64
theorem NtI.same {s s' : AW} {lost : Int} (h : NtI s lost) (e : s'.nt = s.nt) (n : s.n ≤ s'.n) : NtI s' lost := by
 refine ⟨by rw [e]; exact h.dr, fun x hx => ?_, by rw [e]; exact h.len, by rw [e]; exact h.tot⟩
 rw [e] at hx
 have := h.st x hx
 omega
theorem NtI.drop {s s' : AW} {lost n1 h1 n2 h2 n3 h3 ref b q sl : Int} (h : NtI s lost) (hl : lost ≤ 300000) (r0 : 0 ≤ ref) (r1 : ref ≤ 63)
 (e : s'.nt = ntAdd (ntAdd (ntAdd s.nt ⟨n1, h1, 3, 0, 0, 0, 0, 0⟩) ⟨n2, h2, 1, ref, b, q, sl, 0⟩) ⟨n3, h3, 2, ref, b, q, sl, 0⟩) (u1 : s.n ≤ n1) (u2 : n1 ≤ n2) (u3 : n2 ≤ n3) (u4 : n3 ≤ s'.n) :
 NtI s' (lost + 1) ∧ ∀ r : Nat, drC 1 s'.nt r = drC 1 s.nt r + if ref = (r : Int) then 1 else 0 := by
 have hlen := h.len
 have e1 : ntAdd s.nt ⟨n1, h1, 3, 0, 0, 0, 0, 0⟩ = s.nt ++ [⟨n1, h1, 3, 0, 0, 0, 0, 0⟩] := ntAdd_fine (by show (1 : Int) ≤ 3; omega) (by show (3 : Int) ≤ 9; omega) (by omega) fun m hm => by have := h.st m hm; show m.step ≤ n1; omega
 rw [e1] at e
 have e2 : ntAdd (s.nt ++ [⟨n1, h1, 3, 0, 0, 0, 0, 0⟩]) ⟨n2, h2, 1, ref, b, q, sl, 0⟩ = s.nt ++ [⟨n1, h1, 3, 0, 0, 0, 0, 0⟩] ++ [⟨n2, h2, 1, ref, b, q, sl, 0⟩] := ntAdd_fine (by show (1 : Int) ≤ 1; omega) (by show (1 : Int) ≤ 9; omega) (by rw [List.length_append]; simp; omega) fun m hm => by
  show m.step ≤ n2
  rcases List.mem_append.1 hm with g | g
  · have := h.st m g; omega
  · rw [List.mem_singleton.1 g]; exact u2
 rw [e2] at e
 have e3 : ntAdd (s.nt ++ [⟨n1, h1, 3, 0, 0, 0, 0, 0⟩] ++ [⟨n2, h2, 1, ref, b, q, sl, 0⟩]) ⟨n3, h3, 2, ref, b, q, sl, 0⟩ = s.nt ++ [⟨n1, h1, 3, 0, 0, 0, 0, 0⟩] ++ [⟨n2, h2, 1, ref, b, q, sl, 0⟩] ++ [⟨n3, h3, 2, ref, b, q, sl, 0⟩] := ntAdd_fine (by show (1 : Int) ≤ 2; omega) (by show (2 : Int) ≤ 9; omega) (by rw [List.length_append, List.length_append]; simp; omega) fun m hm => by
  show m.step ≤ n3
  rcases List.mem_append.1 hm with g | g
  · rcases List.mem_append.1 g with g | g
    · have := h.st m g; omega
    · rw [List.mem_singleton.1 g]; show n1 ≤ n3; omega
  · rw [List.mem_singleton.1 g]; exact u3
 rw [e3] at e
 have e4 : s'.nt = s.nt ++ [⟨n1, h1, 3, 0, 0, 0, 0, 0⟩, ⟨n2, h2, 1, ref, b, q, sl, 0⟩, ⟨n3, h3, 2, ref, b, q, sl, 0⟩] := by rw [e]; simp
 have hd : ∀ r : Nat, drC 1 s'.nt r = drC 1 s.nt r + if ref = (r : Int) then 1 else 0 := fun r => by rw [e4]; exact drC_three rfl rfl rfl r
 refine ⟨⟨by rw [e4]; exact h.dr.three rfl rfl rfl rfl rfl r0 r1, fun x hx => ?_, by rw [e4, List.length_append]; simp; omega, ?_⟩, hd⟩
 · rw [e4] at hx
   rcases List.mem_append.1 hx with g | g
   · have := h.st x g; omega
   · simp only [List.mem_cons, List.not_mem_nil, or_false] at g
     rcases g with g | g | g
     · rw [g]; show n1 ≤ _; omega
     · rw [g]; show n2 ≤ _; omega
     · rw [g]; exact u4
 · rw [sumN_congr (J := fun r => drC 1 s.nt r + if ref = (r : Int) then 1 else 0) fun i _ => hd i, sumN_add, h.tot, sumN_if ref r0, if_pos (by omega)]
def SlOk (x : Int × Int) : Prop := (x.1 = 0 → x = (0, 0)) ∧ (x.1 ≠ 0 → 1 ≤ x.2 ∧ x.2 < 64)
theorem SlOk.free {b : Int} {T : Tab} (h : ∀ q : Spt, q.ok → q.b = b → SlOk (T q)) : FreeOk b T := fun _ p hp hb => ⟨(h p hp hb).1, fun e => by have := (h p hp hb).2 e; omega⟩
theorem mvStep_lost (mo : Int) (s : AW) (z : Mvm) (h0 : 0 ≤ z.lost) (h1 : z.lost ≤ z.p.s) : 0 ≤ (mvStep mo (s, z)).2.lost ∧ (mvStep mo (s, z)).2.lost ≤ (mvStep mo (s, z)).2.p.s := by
 have nx : ∀ y : Mvm, 0 ≤ y.lost → y.lost ≤ y.p.s + 1 → 0 ≤ (mvNext y).lost ∧ (mvNext y).lost ≤ (mvNext y).p.s := fun y q0 q1 => by unfold mvNext; exact ⟨q0, q1⟩
 have m7 : ∀ y : Mvm, 0 ≤ y.lost → y.lost ≤ y.p.s → 0 ≤ (mv7 y).lost ∧ (mv7 y).lost ≤ (mv7 y).p.s := fun y q0 q1 => by unfold mv7; exact ⟨q0, q1⟩
 by_cases g1 : z.ln = 1
 · rw [mvStep_1 _ _ _ g1]
   dsimp only
   split
   · exact nx _ h0 (by dsimp only; omega)
   · exact ⟨h0, h1⟩
 by_cases g2 : z.ln = 2
 · rw [mvStep_2 _ _ _ g2]
   dsimp only
   exact ⟨h0, h1⟩
 by_cases g3 : z.ln = 3
 · rw [mvStep_3 _ _ _ g3]
   dsimp only
   repeat' split
   all_goals exact ⟨h0, h1⟩
 by_cases g4 : z.ln = 4
 · rw [mvStep_4 _ _ _ g4]
   dsimp only
   exact ⟨h0, h1⟩
 by_cases g5 : z.ln = 5
 · rw [mvStep_5 _ _ _ g5]
   dsimp only
   repeat' split
   · exact m7 _ h0 h1
   all_goals exact ⟨h0, h1⟩
 by_cases g6 : z.ln = 6
 · rw [mvStep_6 _ _ _ g6]
   dsimp only
   split
   · exact m7 _ h0 h1
   · exact ⟨h0, h1⟩
 by_cases g7 : z.ln = 7
 · rw [mvStep_7 _ _ _ g7]
   dsimp only
   split
   · exact nx _ h0 (by omega)
   · exact ⟨h0, h1⟩
 by_cases g8 : z.ln = 8
 · rw [mvStep_8 _ _ _ g8]
   dsimp only
   exact ⟨h0, h1⟩
 by_cases g9 : z.ln = 9
 · rw [mvStep_9 _ _ _ g9]
   dsimp only
   exact ⟨h0, h1⟩
 by_cases g10 : z.ln = 10
 · rw [mvStep_10 _ _ _ g10]
   dsimp only
   exact ⟨h0, h1⟩
 by_cases g11 : z.ln = 11
 · rw [mvStep_11 _ _ _ g11]
   dsimp only
   exact nx _ (by dsimp only; omega) (by dsimp only; omega)
 have e : mvStep mo (s, z) = (s, z) := by
  unfold mvStep
  dsimp only
  rw [if_neg g1, if_neg g2, if_neg g3, if_neg g4, if_neg g5, if_neg g6, if_neg g7, if_neg g8, if_neg g9, if_neg g10, if_neg g11]
 rw [e]
 exact ⟨h0, h1⟩
end
section
set_option linter.unusedVariables false
open Go.RowKit
def miC (T : Tab) (b qb : Int) : Nat → Int
 | 0 => 0
 | i + 1 => miC T b qb i + gOcc (T ⟨b, qb, i⟩)
theorem miC_bd (T : Tab) (b qb : Int) : ∀ i : Nat, 0 ≤ miC T b qb i ∧ miC T b qb i ≤ i
 | 0 => ⟨Int.le_refl _, Int.le_refl _⟩
 | i + 1 => by
   have h := miC_bd T b qb i
   have g := gOcc_bd (T ⟨b, qb, i⟩)
   show 0 ≤ miC T b qb i + _ ∧ miC T b qb i + _ ≤ _
   omega
theorem Fil.slok {b : Int} {ks : List ByteArray} {M : Int → Int} (F : Fil b ks M) (hks : ks.length ≤ 40) {p : Spt} (hp : p.ok) (hb : p.b = b) : SlOk (twTag (M p.tags) p.s, M p.item) := by
 rcases F.slot p hp hb with ⟨h1, h2⟩ | ⟨r, k, h1, h2, h3, h4⟩
 · exact ⟨fun _ => by rw [h1, h2], fun e => absurd h1 e⟩
 · have hr := (List.getElem?_eq_some_iff.1 h1).1
   have ht := fnvTag_key k
   exact ⟨fun e => by dsimp only at e; omega, fun _ => by dsimp only; omega⟩
structure MlS (full : Bool) (b qb : Int) (T0 : Tab) (s : AW) : Prop where
 b0 : 1 ≤ b
 b1 : b ≤ 3
 q0 : 0 ≤ qb
 q1 : qb < fnvSize b
 rep : Rep s.M T0
 old : ∀ p : Spt, p.ok → p.b = b → SlOk (T0 p)
 new : ∀ p : Spt, p.ok → p.b = b + 1 → if full = true then (T0 p).1 ≠ 0 else T0 p = (0, 0)
 ver : ∀ i : Nat, i < 64 → s.M (64 + (i : Int)) % 2 = 0
 nt : s.nt = []
structure MlI (full : Bool) (b qb : Int) (T0 : Tab) (s0 : AW) (N : Nat) (i : Nat) (s : AW) (T : Tab) (z : Mvm) : Prop where
 ln : z.ln = if i = 4 then 0 else 1
 now : z.now = b + 1
 p : z.p = ⟨b, qb, i⟩
 rep : Rep s.M T
 par : Par s0.M s.M
 it : s.it = s0.it
 up : s0.n ≤ s.n
 oth : ∀ a, a < 64 ∨ 4294967296 < a → a ≠ 6 → s.M a = s0.M a
 old : ∀ p : Spt, p.ok → p.b = b → T p = if p.q = qb ∧ p.s < i then (0, 0) else T0 p
 nti : NtI s z.lost
 fu : full = true → (∀ p : Spt, p.ok → p.b = b + 1 → T p = T0 p) ∧ z.lost = miC T0 b qb i
 fr : full = false → (∀ p : Spt, p.ok → p.b = b + 1 → SlOk (T p)) ∧ z.lost = 0 ∧ tC gOcc T (b + 1) N = miC T0 b qb i
section
variable {full : Bool} {b qb : Int} {T0 : Tab} {s0 : AW} {N : Nat}
theorem Hopd.slokb {b : Int} {T T' : Tab} (h : Hopd b T T') : (∀ q : Spt, q.ok → q.b = b → SlOk (T q)) → ∀ q : Spt, q.ok → q.b = b → SlOk (T' q) := by
 induction h with
 | refl T => exact id
 | @hop T T' p q hp hq pb qb hn ht hz ho h ih =>
   intro hf
   refine ih fun x hx hxb => ?_
   by_cases c : x.is q
   · rw [Spt.is_eq c, Tab.set_same]; exact hf p hp pb
   · rw [Tab.set_ne _ c]
     by_cases d : x.is p
     · rw [Spt.is_eq d, Tab.set_same]; exact ⟨fun _ => rfl, fun e => absurd rfl e⟩
     · rw [Tab.set_ne _ d]; exact hf x hx hxb
theorem MlI.step (S : MlS full b qb T0 s0) (hN : (N : Int) = plSpots (b + 1)) {i : Nat} {s : AW} {T : Tab} {z : Mvm} (hi : i < 4) (H : MlI full b qb T0 s0 N i s T z) : MvPr s T z ∧ ∀ s' z' T', MvR s T z s' z' T' → MlI full b qb T0 s0 N (i + 1) s' T' z' := by
 obtain ⟨ln, now, hp, rep, par, it, up, oth, old, nti, hfu, hfr⟩ := H
 have b0 := S.b0
 have b1 := S.b1
 have hpk : z.p.ok := by rw [hp]; exact ⟨b0, by dsimp only; omega, S.q0, S.q1, by dsimp only; omega, by dsimp only; omega⟩
 have hpb : z.p.b = b := by rw [hp]
 have hTp : T z.p = T0 z.p := by rw [old _ hpk hpb, hp, if_neg (by dsimp only; omega)]
 have hsl := S.old z.p hpk hpb
 have hon : plOld (b + 1) = b + 1 := plOld_one (by omega) (by omega)
 have hnn : plNow (b + 1) = 0 := plNow_one (by omega) (by omega)
 have hinb : plIn (b + 1) (b + 1) := .inl hon.symm
 have hnin : ¬ plIn (b + 1) b := fun e => by rcases e with e | e <;> omega
 have hmi : miC T0 b qb (i + 1) = miC T0 b qb i + gOcc (T0 z.p) := by rw [hp]; rfl
 have hmb := miC_bd T0 b qb i
 have newT : full = true → ∀ p : Spt, p.ok → p.b = b + 1 → (T p).1 ≠ 0 := fun hf p hp2 hpb2 => by
  rw [(hfu hf).1 p hp2 hpb2]
  have := S.new p hp2 hpb2
  rw [if_pos hf] at this
  exact this
 refine ⟨⟨rep, by rw [ln, if_neg (by omega)], hpk, by rw [hpb, now]; omega, by omega, by omega, ?_, fun e => ?_⟩, fun s' z' T' R => ?_⟩
 · rw [now]
   cases hf : full with
   | true => exact fun ⟨q, h1, h2, h3⟩ => absurd h3 (newT hf q h1 h2)
   | false => exact SlOk.free (hfr hf).1
 · rw [hTp] at e ⊢
   have := hsl.2 e
   omega
 · have R1 := R.ln
   have R3 := R.p
   rw [hp] at R1 R3
   dsimp only at R1 R3
   have rln : z'.ln = if i + 1 = 4 then 0 else 1 := by
    rw [R1]
    by_cases c : i + 1 = 4
    · rw [if_pos (by omega), if_pos c]
    · rw [if_neg (by omega), if_neg c]
   have rnow : z'.now = b + 1 := R.now.trans now
   have rp : z'.p = ⟨b, qb, ((i + 1 : Nat) : Int)⟩ := by rw [R3]; rfl
   have roth : ∀ a, a < 64 ∨ 4294967296 < a → a ≠ 6 → s'.M a = s0.M a := fun a h1 h2 => (R.oth a h1 h2).trans (oth a h1 h2)
   have rit := R.it.trans it
   have rup : s0.n ≤ s'.n := Int.le_trans up R.up
   have rpar := par.trans R.par
   -- the old table behind the slot is emptied
   have keyo : ∀ p : Spt, p.ok → p.b = b → (if p.is z.p then (0, 0) else T p) = if p.q = qb ∧ p.s < ((i + 1 : Nat) : Int) then (0, 0) else T0 p := fun p hp2 hpb2 => by
    rw [old p hp2 hpb2, hp]
    by_cases c : p.q = qb
    · by_cases d : p.s = i
      · rw [if_pos ⟨hpb2, c, d⟩, if_pos ⟨c, by omega⟩]
      · rw [if_neg fun e => d e.2.2]
        by_cases e : p.s < i
        · rw [if_pos ⟨c, e⟩, if_pos ⟨c, by omega⟩]
        · rw [if_neg fun x => e x.2, if_neg fun x => by have := x.2; omega]
    · rw [if_neg fun e => c e.2.1, if_neg fun e => c e.1, if_neg fun e => c e.1]
   rcases R.res with ⟨h1, h2, h3, h4, h5⟩ | ⟨h1, h2, h3, h4, T1, d, h, hh, hop, dok, db, dq, dz, h5⟩ | ⟨h1, h2, h3, h4, h5, n1, h1', n2, h2', n3, h3', h6, u1, u2, u3, u4⟩
   · have hz0 : T z.p = (0, 0) := by rw [hTp] at h1 ⊢; exact hsl.1 h1
     have hg : gOcc (T0 z.p) = 0 := by rw [← hTp, hz0]; rfl
     refine ⟨rln, rnow, rp, R.rep, rpar, rit, rup, roth, fun p hp2 hpb2 => ?_, by rw [h5]; exact nti.same h4 R.up, fun hf => ?_, fun hf => ?_⟩
     · rw [← keyo p hp2 hpb2, h2]
       by_cases c : p.is z.p
       · rw [if_pos c, Spt.is_eq c, hz0]
       · rw [if_neg c]
     · rw [h2, hmi, hg, h5]; exact ⟨(hfu hf).1, by have := (hfu hf).2; omega⟩
     · rw [h2, hmi, hg, h5]; exact ⟨(hfr hf).1, (hfr hf).2.1, by have := (hfr hf).2.2; omega⟩
   · rw [now] at hop db
     have hdn : ¬ d.is z.p := fun e => by have := e.1; omega
     have hff : full = false := by
      cases hf : full with
      | false => rfl
      | true =>
        exfalso
        have := hop.full (newT hf)
        rw [this] at dz
        exact newT hf d dok db (by rw [dz])
     have hg : gOcc (T z.p) = 1 := by unfold gOcc; rw [if_neg h1]
     have hsum : tC gOcc T' (b + 1) N = miC T0 b qb (i + 1) := by
      rw [h5, tC_set hN dok (by rw [db]; exact hinb), Tab.set_ne _ hdn, dz, tC_out (by omega) (by rw [hpb]; exact hnin), hop.sum rfl hN, (hfr hff).2.2, hmi, ← hTp, hg, show gOcc (0, 0) = 0 from rfl]
      omega
     refine ⟨rln, rnow, rp, R.rep, rpar, rit, rup, roth, fun p hp2 hpb2 => ?_, by rw [h4]; exact nti.same h3 R.up, fun hf => ?_, fun _ => ⟨fun p hp2 hpb2 => ?_, by rw [h4]; exact (hfr hff).2.1, hsum⟩⟩
     · rw [← keyo p hp2 hpb2, h5, Tab.set_ne _ (fun e => by have := e.1; omega)]
       unfold Tab.set
       rw [hop.other p (by omega)]
     · rw [hff] at hf; cases hf
     · rw [h5]
       by_cases c : p.is d
       · rw [Spt.is_eq c, Tab.set_same, hTp]; exact hsl
       · rw [Tab.set_ne _ c, Tab.set_ne _ (fun e => by have := e.1; omega)]
         exact hop.slokb (hfr hff).1 p hp2 hpb2
   · have hfu2 : full = true := by
      cases hf : full with
      | true => rfl
      | false =>
        exfalso
        rw [now] at h5
        have hb := fnvBucket_bd (h := fnvHash (itKey s.it (T z.p).2)) (show 1 ≤ b + 1 by omega) (show b + 1 ≤ 12 by omega)
        have := tC_full (t := b + 1) (a := fnvBucket (fnvHash (itKey s.it (T z.p).2)) (b + 1)) hN hb.1 (by rw [hon]; exact hb.2) (by rw [hon]; exact h5)
        have := (hfr hf).2.2
        omega
     have hg : gOcc (T0 z.p) = 1 := by rw [← hTp]; unfold gOcc; rw [if_neg h1]
     have hr := (hsl.2 (by rw [← hTp]; exact h1))
     rw [← hTp] at hr
     have hlo := (hfu hfu2).2
     have hnd := nti.drop (by omega) (by omega : 0 ≤ (T z.p).2) (by omega) h6 u1 u2 u3 u4
     refine ⟨rln, rnow, rp, R.rep, rpar, rit, rup, roth, fun p hp2 hpb2 => ?_, by rw [h3]; exact hnd.1, fun _ => ⟨fun p hp2 hpb2 => ?_, by rw [h3, hmi, hg]; omega⟩, fun hf => ?_⟩
     · rw [← keyo p hp2 hpb2, h4]; rfl
     · rw [h4, Tab.set_ne _ (fun e => by have := e.1; omega)]; exact (hfu hfu2).1 p hp2 hpb2
     · rw [hfu2] at hf; cases hf
structure MlR (full : Bool) (b qb : Int) (T0 : Tab) (s0 : AW) (N : Nat) (c : Nat) (y : AW) (z : Mvm) : Prop where
 run : runN mvOver (mvStep 16) 9000 (s0, mvNew (plWord b (b + 1)) qb) = (c, y, z)
 ov : mvOver z = true
 lost : z.lost = if full = true then miC T0 b qb 4 else 0
 nti : NtI y z.lost
 emp : ∀ k : Nat, k < 4 → twTag (y.M (plTags b qb)) k = 0 ∧ y.M (plItem b qb k) = 0
 odd : ∀ i : Nat, i < 64 → y.M (64 + (i : Int)) % 2 = 0
 it : y.it = s0.it
 wd : y.M 2 = s0.M 2
 fu : full = true → ∀ n : Nat, n < N → twTag (y.M (plAt (b + 1) n).tags) (plAt (b + 1) n).s = (T0 (plAt (b + 1) n)).1 ∧ y.M (plAt (b + 1) n).item = (T0 (plAt (b + 1) n)).2
 fr : full = false → sumN (fun r => tC (gAt r) (tabOf y.M) (b + 1) N) 64 = miC T0 b qb 4
theorem plOld_two {b : Int} (b0 : 1 ≤ b) (b1 : b ≤ 11) : plOld (plWord b (b + 1)) = b ∧ plNow (plWord b (b + 1)) = b + 1 := by
 have e1 : b % 256 = b := by omega
 have e2 : (b + 1) % 256 = b + 1 := by omega
 have h1 : plWord b (b + 1) % 256 = b := by unfold plWord; rw [e1, e2]; omega
 have e3 : (b + 256 * (b + 1)) / 256 = b + 1 := by omega
 have h2 : plWord b (b + 1) / 256 % 256 = b + 1 := by unfold plWord; rw [e1, e2, e3, e2]
 have ho : plOld (plWord b (b + 1)) = b := by unfold plOld; rw [h1, if_pos (by omega)]
 refine ⟨ho, ?_⟩
 unfold plNow
 rw [h2, ho, if_pos (by omega)]
theorem ml_run (S : MlS full b qb T0 s0) (hN : (N : Int) = plSpots (b + 1)) : ∃ c y z, MlR full b qb T0 s0 N c y z := by
 have b0 := S.b0
 have b1 := S.b1
 obtain ⟨ho, hn⟩ := plOld_two b0 (by omega : b ≤ 11)
 have e0 : mvNew (plWord b (b + 1)) qb = ⟨1, 0, b + 1, ⟨b, qb, 0⟩, 0, 0, rm0, sp20, [], ⟨3, 0⟩, ⟨3, 0⟩⟩ := by
  have := S.q0
  have := S.q1
  unfold mvNew
  rw [ho, hn, if_neg (by omega)]
 have hon : plOld (b + 1) = b + 1 := plOld_one (by omega) (by omega)
 have hz : tC gOcc T0 (b + 1) N = 0 ∨ full = true := by
  cases hf : full with
  | true => exact .inr rfl
  | false =>
    refine .inl ?_
    have : ∀ n : Nat, n ≤ N → tC gOcc T0 (b + 1) n = 0 := by
     intro n
     induction n with
     | zero => intro _; rfl
     | succ n ih =>
       intro hn
       have hb : (plAt (b + 1) n).b = b + 1 := by
        rcases plAt_tab (t := b + 1) (n := n) (by omega) with e | ⟨e, e2⟩
        · rw [e, hon]
        · exact absurd (plNow_one (by omega) (by omega)) e2
       have := S.new _ (plAt_ok (b + 1) n) hb
       rw [if_neg (by rw [hf]; decide)] at this
       show tC gOcc T0 (b + 1) n + gOcc (T0 (plAt (b + 1) n)) = 0
       rw [ih (by omega), this]
       rfl
    exact this N (Nat.le_refl _)
 have H0 : MlI full b qb T0 s0 N 0 s0 T0 (mvNew (plWord b (b + 1)) qb) := by
  rw [e0]
  refine ⟨rfl, rfl, rfl, S.rep, Par.refl _, rfl, Int.le_refl _, fun _ _ _ => rfl, fun p hp hb => ?_, NtI.start S.nt, fun hf => ⟨fun _ _ _ => rfl, rfl⟩, fun hf => ⟨fun p hp hb => ?_, rfl, ?_⟩⟩
  · rw [if_neg fun e => by have := e.2; have := hp.s0; omega]
  · have := S.new p hp hb
    rw [if_neg (by rw [hf]; decide)] at this
    rw [this]
    exact ⟨fun _ => rfl, fun e => absurd rfl e⟩
  · rcases hz with e | e
    · exact e
    · rw [hf] at e; cases e
 obtain ⟨n, y, z, T, c1, g, H⟩ := mv_four (mo := 16) (L := 16) (by decide) (by decide) (MlI full b qb T0 s0 N) (fun i s T z hi h => h.step S hN hi) 4 0 s0 T0 _ rfl H0
 have hov : mvOver z = true := by unfold mvOver; rw [H.ln]; rfl
 refine ⟨n, y, z, g.fin (by omega) hov, hov, ?_, H.nti, fun k hk => ?_, fun i hi => by rw [H.par i hi]; exact S.ver i hi, H.it, H.oth 2 (.inl (by decide)) (by decide), fun hf m hm => ?_, fun hf => ?_⟩
 · cases hf : full with
   | true => rw [if_pos rfl]; exact (H.fu hf).2
   | false => rw [if_neg (by decide)]; exact (H.fr hf).2.1
 · have hok : (⟨b, qb, (k : Int)⟩ : Spt).ok := ⟨b0, by dsimp only; omega, S.q0, S.q1, by dsimp only; omega, by dsimp only; omega⟩
   have h1 := H.rep.tg _ hok
   have h2 := H.rep.it _ hok
   rw [H.old _ hok rfl, if_pos ⟨rfl, by dsimp only; omega⟩] at h1 h2
   exact ⟨h1, h2⟩
 · have hb : (plAt (b + 1) m).b = b + 1 := by
    rcases plAt_tab (t := b + 1) (n := m) (by omega) with e | ⟨e, e2⟩
    · rw [e, hon]
    · exact absurd (plNow_one (by omega) (by omega)) e2
   have hok := plAt_ok (b + 1) m
   rw [H.rep.tg _ hok, H.rep.it _ hok, (H.fu hf).1 _ hok hb]
   exact ⟨rfl, rfl⟩
 · have e1 : sumN (fun r => tC (gAt r) (tabOf y.M) (b + 1) N) 64 = sumN (fun r => tC (gAt r) T (b + 1) N) 64 := sumN_congr fun r _ => tC_congr fun i hi => by
    have := H.rep.val (plAt_ok (b + 1) i)
    unfold tabOf
    rw [this]
   rw [e1, gAt_all fun i hi => ?_]
   · exact (H.fr hf).2.2
   · have hok := plAt_ok (b + 1) i
     have hb : (plAt (b + 1) i).b = b + 1 := by
      rcases plAt_tab (t := b + 1) (n := i) (by omega) with e | ⟨e, e2⟩
      · rw [e, hon]
      · exact absurd (plNow_one (by omega) (by omega)) e2
     have hs := (H.fr hf).1 _ hok hb
     have ht := twTag_bd (y.M (plAt (b + 1) i).tags) (plAt (b + 1) i).s
     rw [H.rep.tg _ hok] at ht
     exact ⟨ht.1, fun e => by have := hs.2 e; omega⟩
end
end
section
set_option linter.unusedVariables false
open Go.RowKit
structure MlF (b : Int) (s1 : AW) (i : Nat) (s : AW) : Prop where
 lo : ∀ a, (∀ j : Nat, j < i → a ≠ plTags (b + 1) j) → s.M a = s1.M a
 tg : ∀ j : Nat, j < i → s.M (plTags (b + 1) j) = 16843009 * ((j : Int) + 1)
 it : s.it = s1.it
 nt : s.nt = s1.nt
 n0 : s1.n ≤ s.n
 n1 : s.n ≤ s1.n + i
theorem MlF.start (b : Int) (s : AW) : MlF b s 0 s := ⟨fun _ _ => rfl, fun j hj => absurd hj (Nat.not_lt_zero j), rfl, rfl, Int.le_refl _, by omega⟩
theorem plTags_b {b : Int} {j : Nat} (h : (j : Int) < fnvSize b) : plTags b j = 4096 + 8 * (fnvSize b + j) := plTags_in ⟨by omega, h⟩
theorem MlF.more {b : Int} {s1 s : AW} {i : Nat} (h : MlF b s1 i s) (hi : (i : Int) < fnvSize (b + 1)) : MlF b s1 (i + 1) (awStore (plTags (b + 1) i) (16843009 * ((i : Int) + 1)) s) := by
 refine ⟨fun a ha => ?_, fun j hj => ?_, h.it, h.nt, by have := h.n0; show s1.n ≤ s.n + 1; omega, by have := h.n1; show s.n + 1 ≤ _; omega⟩
 · show upd s.M _ _ a = _
   rw [upd_other _ (ha i (by omega)), h.lo a fun j hj => ha j (by omega)]
 · show upd s.M _ _ _ = _
   by_cases c : j = i
   · subst c; rw [upd_same]
   · rw [upd_other _ (by rw [plTags_b hi, plTags_b (by omega)]; omega), h.tg j (by omega)]
theorem fnvSize_up {b : Int} (b0 : 1 ≤ b) (b1 : b ≤ 3) : fnvSize (b + 1) = 2 * fnvSize b ∧ 2 ≤ fnvSize b ∧ fnvSize b ≤ 8 := by
 have h : b = 1 ∨ b = 2 ∨ b = 3 := by omega
 rcases h with rfl | rfl | rfl <;> decide
theorem Spt.ok.far {p : Spt} (hp : p.ok) {b : Int} (b0 : 1 ≤ b) (b1 : b ≤ 3) (h : p.b ≠ b) : p.tags + 8 ≤ 4096 + 8 * fnvSize b ∨ 4096 + 16 * fnvSize b ≤ p.tags := by
 have h1 := hp.tags.2.2
 have h2 := hp.q0
 have h3 := hp.q1
 by_cases c : p.b < b
 · have := fnvSize_dbl hp.b0 c (by omega); omega
 · have := fnvSize_dbl b0 (show b < p.b by omega) hp.b1; omega
theorem tw16 : ∀ q : Nat, q < 16 → ∀ k : Nat, k < 4 → twTag (16843009 * ((q : Int) + 1)) (k : Int) ≠ 0 := by decide +kernel
theorem Fil.out {b : Int} {ks : List ByteArray} {M : Int → Int} (F : Fil b ks M) {p : Spt} (hp : p.ok) (h : p.b ≠ b) : M p.tags = 0 ∧ M p.item = 0 := by
 have h1 := hp.far F.b0 F.b1 h
 have h2 := Spt.item_8 hp
 have h3 := hp.tags
 have := hp.s0
 have := hp.s1
 exact ⟨F.oth _ (by omega) (by omega), F.oth _ (by omega) (by omega)⟩
theorem MlS.of {full : Bool} {b qb t : Int} {ks : List ByteArray} {s0 s1 s : AW} {i : Nat} (F : FulS b ks s0) (hks : ks.length ≤ 40) (q0 : 0 ≤ qb) (q1 : qb < fnvSize b) (h1 : s1 = awStore 2 t s0) (H : MlF b s1 i s) (hi : (i : Int) = if full = true then fnvSize (b + 1) else 0) :
 MlS full b qb (tabOf s.M) s ∧ (∀ p : Spt, p.ok → p.b = b → tabOf s.M p = tabOf s1.M p) ∧ s.M 2 = t ∧ s.it = ks.map fulIt := by
 have b0 := F.fil.b0
 have b1 := F.fil.b1
 have hz := fnvSize_up b0 b1
 have lo1 : ∀ a, a ≠ 2 → s1.M a = s0.M a := fun a ha => by rw [h1]; exact upd_other _ ha
 have hi2 : (i : Int) ≤ fnvSize (b + 1) := by rw [hi]; split <;> omega
 have lo2 : ∀ a, a < 4096 + 16 * fnvSize b → s.M a = s1.M a := fun a ha => H.lo a fun j hj => by rw [plTags_b (by omega)]; omega
 have hT : ∀ p : Spt, p.ok → p.b = b → s.M p.tags = s0.M p.tags ∧ s.M p.item = s0.M p.item := fun p hp hb => by
  have a1 := hp.tags
  have a2 := Spt.item_8 hp
  have a3 := hp.q1
  have a4 := hp.q0
  have a5 := hp.s0
  have a6 := hp.s1
  rw [hb] at a1 a3
  rw [lo2 _ (by omega), lo2 _ (by omega), lo1 _ (by omega), lo1 _ (by omega)]
  exact ⟨rfl, rfl⟩
 have hN : ∀ p : Spt, p.ok → p.b ≠ b → s.M p.item = 0 ∧ (s.M p.tags = 0 ∨ (p.b = b + 1 ∧ full = true ∧ s.M p.tags = 16843009 * (p.q + 1) ∧ p.q < 16)) ∧ (p.b = b + 1 → full = true → s.M p.tags = 16843009 * (p.q + 1)) := fun p hp hb => by
  have h3 := F.fil.out hp hb
  have a1 := hp.tags
  have a2 := Spt.item_8 hp
  have a5 := hp.s0
  have a6 := hp.s1
  have hit : s.M p.item = 0 := by
   rw [H.lo _ (fun j hj => by rw [plTags_b (by omega)]; omega), lo1 _ (by omega)]; exact h3.2
  by_cases c : p.b = b + 1
  · have a3 := hp.q1
    have a4 := hp.q0
    rw [c] at a3 a1
    cases full with
    | true =>
      rw [if_pos rfl] at hi
      have e := H.tg p.q.toNat (by omega)
      have e2 : plTags (b + 1) (p.q.toNat : Int) = p.tags := by rw [plTags_b (by omega)]; omega
      rw [e2] at e
      have e3 : s.M p.tags = 16843009 * (p.q + 1) := by rw [e]; omega
      exact ⟨hit, .inr ⟨c, rfl, e3, by omega⟩, fun _ _ => e3⟩
    | false =>
      rw [if_neg (by decide)] at hi
      have e : s.M p.tags = 0 := by rw [H.lo _ (fun j hj => by omega), lo1 _ (by omega)]; exact h3.1
      exact ⟨hit, .inl e, fun _ x => by cases x⟩
  · have a4 := hp.q0
    have hb1 : p.tags ≠ 2 := by omega
    have e : s.M p.tags = 0 := by
     rw [H.lo _ (fun j hj => fun x => ?_), lo1 _ hb1]
     · exact h3.1
     · have := Spt.tags_inj hp (q := ⟨b + 1, j, 0⟩) ⟨by dsimp only; omega, by dsimp only; omega, by dsimp only; omega, by dsimp only; omega, by dsimp only; omega, by dsimp only; omega⟩ x
       exact c this.1
    exact ⟨hit, .inl e, fun x => absurd x c⟩
 refine ⟨⟨b0, b1, q0, q1, Rep.of fun p hp => ?_, fun p hp hb => ?_, fun p hp hb => ?_, fun j hj => ?_, by rw [H.nt, h1]; exact F.nt⟩, fun p hp hb => ?_, ?_, ?_⟩
 · by_cases c : p.b = b
   · rw [(hT p hp c).1]; exact F.fil.word p hp c
   · rcases (hN p hp c).2.1 with e | ⟨-, -, e, e2⟩
     · rw [e]; decide
     · have := hp.q0; rw [e]; omega
 · have := F.fil.slok hks hp hb
   unfold tabOf
   rw [(hT p hp hb).1, (hT p hp hb).2]
   exact this
 · have hn := hN p hp (by omega)
   cases full with
   | true =>
     rw [if_pos rfl]
     show twTag (s.M p.tags) p.s ≠ 0
     rw [hn.2.2 hb rfl]
     have a4 := hp.q0
     have a5 := hp.s0
     have a6 := hp.s1
     have a7 := hp.q1
     rw [hb] at a7
     have := tw16 p.q.toNat (by omega) p.s.toNat (by omega)
     rw [show ((p.q.toNat : Nat) : Int) = p.q by omega, show ((p.s.toNat : Nat) : Int) = p.s by omega] at this
     exact this
   | false =>
     rw [if_neg (by decide)]
     have e : s.M p.tags = 0 := by
      rcases hn.2.1 with e | ⟨-, x, -⟩
      · exact e
      · cases x
     show (twTag (s.M p.tags) p.s, s.M p.item) = (0, 0)
     rw [e, hn.1]
     have a5 := hp.s0
     have a6 := hp.s1
     have cs : p.s = 0 ∨ p.s = 1 ∨ p.s = 2 ∨ p.s = 3 := by omega
     rcases cs with e | e | e | e <;> rw [e] <;> rfl
 · rw [lo2 _ (by omega), lo1 _ (by omega), F.fil.oth _ (by omega) (.inl (by omega))]; rfl
 · have e := hT p hp hb
   have a1 := hp.tags
   have a2 := Spt.item_8 hp
   have a5 := hp.s0
   show (twTag (s.M p.tags) p.s, s.M p.item) = (twTag (s1.M p.tags) p.s, s1.M p.item)
   rw [e.1, e.2, lo1 _ (by omega), lo1 _ (by omega)]
 · rw [lo2 _ (by omega), h1]; exact upd_same s0.M 2 t
 · rw [H.it, h1]; exact F.it
theorem miC_congr {T T' : Tab} {b qb : Int} (h : ∀ k : Nat, k < 4 → T' ⟨b, qb, k⟩ = T ⟨b, qb, k⟩) : ∀ {n : Nat}, n ≤ 4 → miC T' b qb n = miC T b qb n
 | 0, _ => rfl
 | n + 1, hn => by
   show miC T' b qb n + gOcc _ = miC T b qb n + gOcc _
   rw [miC_congr h (by omega : n ≤ 4), h n (by omega)]
end
end Go.Proofs.YtfnmdafpdcgcmaaGreat
