/- Slots of tables, plain: what they hold, spot by spot; Hops by themselves. A Way by itself, plain: it loads alone; what it finds is a chain of items, each to be put into its other bucket, up to a free slot. A Room by itself, plain. Sums over the slots of tables, plain; hops change none of them. -/
import Derived.Test.YtfnmdafpdcgcmaaGreatZ5
import Derived.Test.YtfnmdafpdcgcmaaGreatZL
namespace Go.Proofs.YtfnmdafpdcgcmaaGreat
set_option linter.unusedSimpArgs false
section
set_option linter.unusedVariables false
open Go.RowKit
abbrev Spt.is (p q : Spt) : Prop := p.b = q.b ∧ p.q = q.q ∧ p.s = q.s
theorem Spt.is_eq {p q : Spt} (h : p.is q) : p = q := by
 obtain ⟨a, b, c⟩ := p
 obtain ⟨a', b', c'⟩ := q
 obtain ⟨h1, h2, h3⟩ := h
 dsimp only at h1 h2 h3
 rw [h1, h2, h3]
theorem Spt.is_rfl (p : Spt) : p.is p := ⟨rfl, rfl, rfl⟩
theorem fnvSize_dbl {a b : Int} (a0 : 1 ≤ a) (h : a < b) (b1 : b ≤ 12) : 2 * fnvSize a ≤ fnvSize b := by
 rw [fnvSize_in a0 (by omega), fnvSize_in (by omega) b1]
 have h1 : 2 ^ (a.toNat + 1) ≤ 2 ^ b.toNat := Nat.pow_le_pow_right (by decide) (by omega)
 rw [Nat.pow_succ] at h1
 have h2 : ((2 ^ a.toNat : Nat) : Int) = (2 : Int) ^ a.toNat := by rw [Int.natCast_pow]; rfl
 have h3 : ((2 ^ b.toNat : Nat) : Int) = (2 : Int) ^ b.toNat := by rw [Int.natCast_pow]; rfl
 rw [← h2, ← h3]
 omega
theorem Spt.tags_inj {p q : Spt} (hp : p.ok) (hq : q.ok) (h : p.tags = q.tags) : p.b = q.b ∧ p.q = q.q := by
 have h1 := hp.tags.2.2
 have h2 := hq.tags.2.2
 have p0 := hp.q0
 have p1 := hp.q1
 have q0 := hq.q0
 have q1 := hq.q1
 have hb : p.b = q.b := by
  by_cases c : p.b < q.b
  · have := fnvSize_dbl hp.b0 c hq.b1; omega
  · by_cases d : q.b < p.b
    · have := fnvSize_dbl hq.b0 d hp.b1; omega
    · omega
 rw [hb] at h1
 exact ⟨hb, by omega⟩
theorem Spt.tags_8 {p : Spt} (hp : p.ok) : p.tags % 8 = 0 := by have := hp.tags.2.2; omega
theorem Spt.item_8 {p : Spt} (hp : p.ok) : p.item % 8 = 1 + p.s ∧ p.item = p.tags + 1 + p.s := by
 have h1 := hp.tags.2.2
 have h2 := hp.item.2.2
 have := hp.s0
 have := hp.s1
 omega
theorem Spt.item_tags {p q : Spt} (hp : p.ok) (hq : q.ok) : p.item ≠ q.tags := by
 have h1 := Spt.item_8 hp
 have h2 := Spt.tags_8 hq
 have := hp.s0
 have := hp.s1
 omega
theorem Spt.item_is {p q : Spt} (hp : p.ok) (hq : q.ok) (h : p.item = q.item) : p.is q := by
 have h1 := Spt.item_8 hp
 have h2 := Spt.item_8 hq
 have := hp.s0
 have := hp.s1
 have := hq.s0
 have := hq.s1
 have h3 := Spt.tags_inj hp hq (by omega)
 exact ⟨h3.1, h3.2, by omega⟩
theorem Spt.tags_of {p q : Spt} (h1 : p.b = q.b) (h2 : p.q = q.q) : p.tags = q.tags := by unfold Spt.tags; rw [h1, h2]
abbrev Tab := Spt → Int × Int
def Tab.set (T : Tab) (p : Spt) (x : Int × Int) : Tab := fun q => if q.is p then x else T q
theorem Tab.set_same (T : Tab) (p : Spt) (x : Int × Int) : T.set p x p = x := by unfold Tab.set; rw [if_pos (Spt.is_rfl p)]
theorem Tab.set_ne {T : Tab} {p q : Spt} (x : Int × Int) (h : ¬ q.is p) : T.set p x q = T q := by unfold Tab.set; rw [if_neg h]
structure Rep (M : Int → Int) (T : Tab) : Prop where
 tg : ∀ p : Spt, p.ok → twTag (M p.tags) p.s = (T p).1
 it : ∀ p : Spt, p.ok → M p.item = (T p).2
 wd : ∀ p : Spt, p.ok → 0 ≤ M p.tags ∧ M p.tags < 4294967296
theorem Rep.low {M M' : Int → Int} {T : Tab} (h : Rep M T) (e : ∀ a, 4096 ≤ a → a < 4294967296 → M' a = M a) : Rep M' T :=
 ⟨fun p hp => by rw [e _ hp.tags.1 hp.tags.2.1]; exact h.tg p hp, fun p hp => by rw [e _ hp.item.1 hp.item.2.1]; exact h.it p hp, fun p hp => by rw [e _ hp.tags.1 hp.tags.2.1]; exact h.wd p hp⟩
theorem Rep.slot {M M' : Int → Int} {T : Tab} (h : Rep M T) {p : Spt} (hp : p.ok) {tg rf : Int} (t0 : 0 ≤ tg) (t1 : tg ≤ 255) (e1 : M' p.tags = twWith (M p.tags) p.s tg) (e2 : M' p.item = rf)
 (e3 : ∀ a, 4096 ≤ a → a < 4294967296 → a ≠ p.tags → a ≠ p.item → M' a = M a) : Rep M' (T.set p (tg, rf)) := by
 have hw := h.wd p hp
 refine ⟨fun q hq => ?_, fun q hq => ?_, fun q hq => ?_⟩
 · by_cases c : q.tags = p.tags
   · have hb := Spt.tags_inj hq hp c
     rw [c, e1, twTag_with hw.1 hp.s0 hp.s1 t0 t1 hq.s0 hq.s1]
     by_cases d : q.s = p.s
     · rw [if_pos d]; unfold Tab.set; rw [if_pos ⟨hb.1, hb.2, d⟩]
     · rw [if_neg d, Tab.set_ne _ (fun x => d x.2.2), ← h.tg q hq, c]
   · rw [e3 _ hq.tags.1 hq.tags.2.1 c (fun x => Spt.item_tags hp hq x.symm), Tab.set_ne _ (fun x => c (Spt.tags_of x.1 x.2.1))]
     exact h.tg q hq
 · by_cases c : q.item = p.item
   · have := Spt.is_eq (Spt.item_is hq hp c)
     subst this
     rw [Tab.set_same, e2]
   · rw [e3 _ hq.item.1 hq.item.2.1 (Spt.item_tags hq hp) c, Tab.set_ne _ (fun x => c (by rw [Spt.is_eq x]))]
     exact h.it q hq
 · by_cases c : q.tags = p.tags
   · rw [c, e1]; exact twWith_32 hw.1 hw.2 hp.s0 hp.s1 t0 t1
   · rw [e3 _ hq.tags.1 hq.tags.2.1 c (fun x => Spt.item_tags hp hq x.symm)]; exact h.wd q hq
def Oth (M M' : Int → Int) : Prop := ∀ a, a < 64 ∨ 4294967296 < a → M' a = M a
def Par (M M' : Int → Int) : Prop := ∀ i : Nat, i < 64 → M' (64 + (i : Int)) % 2 = M (64 + (i : Int)) % 2
structure Kp (s s' : AW) : Prop where
 it : s'.it = s.it
 nt : s'.nt = s.nt
 n : s.n ≤ s'.n
theorem Kp.trans {a b c : AW} (h : Kp a b) (k : Kp b c) : Kp a c := ⟨k.it.trans h.it, k.nt.trans h.nt, Int.le_trans h.n k.n⟩
theorem Kp.load (a : Int) (s : AW) : Kp s (awLoad a s) := ⟨rfl, rfl, by show s.n ≤ s.n + 1; omega⟩
theorem Kp.store (a v : Int) (s : AW) : Kp s (awStore a v s) := ⟨rfl, rfl, by show s.n ≤ s.n + 1; omega⟩
theorem Kp.add (a v : Int) (s : AW) : Kp s (awAdd a v s) := ⟨rfl, rfl, by show s.n ≤ s.n + 1; omega⟩
def addL : List Int → (Int → Int) → (Int → Int)
 | [], M => M
 | a :: l, M => addL l (upd M a ((M a + 1) % 18446744073709551616))
theorem addL_ni : ∀ {l : List Int} {M : Int → Int} {a : Int}, a ∉ l → addL l M a = M a
 | [], M, a, _ => rfl
 | b :: l, M, a, h => by
   have h1 : a ≠ b := fun e => h (by rw [e]; simp)
   have h2 : a ∉ l := fun e => h (List.mem_cons_of_mem _ e)
   show addL l (upd M b _) a = _
   rw [addL_ni h2, upd_other _ h1]
theorem addL_par : ∀ {l : List Int} {M : Int → Int} {a : Int}, addL l M a % 2 = (M a + (l.count a : Nat)) % 2
 | [], M, a => by show M a % 2 = (M a + ((0 : Nat) : Int)) % 2; simp
 | b :: l, M, a => by
   show addL l (upd M b _) a % 2 = _
   rw [addL_par, List.count_cons]
   by_cases h : a = b
   · subst h; rw [upd_same]; simp; omega
   · rw [upd_other _ h]
     have : (b == a) = false := by simp; exact fun e => h e.symm
     rw [this]; simp
theorem mk2_bd64 {p q : Spt} (hp : p.ok) (hq : q.ok) : ∀ a ∈ mk2 p q, 64 ≤ a ∧ a < 128 := by
 have h1 := hp.ver
 have h2 := hq.ver
 intro a ha
 unfold mk2 at ha
 split at ha
 · rw [List.mem_singleton.1 ha]; exact h1
 · simp only [List.mem_cons, List.not_mem_nil, or_false] at ha
   rcases ha with e | e <;> rw [e]
   · exact h1
   · exact h2
theorem addL_out {l : List Int} (hl : ∀ a ∈ l, 64 ≤ a ∧ a < 128) {M : Int → Int} {a : Int} (h : a < 64 ∨ 128 ≤ a) : addL l M a = M a := addL_ni fun e => by have := hl a e; omega
theorem marks_par {l : List Int} {M M1 : Int → Int} (h : ∀ a, a < 4096 → M1 a = addL l M a) : Par M (addL l M1) := by
 intro i hi
 rw [addL_par, h _ (by omega)]
 have := @addL_par l M (64 + (i : Int))
 omega
theorem marks_oth {l : List Int} (hl : ∀ a ∈ l, 64 ≤ a ∧ a < 128) {M M1 : Int → Int} (h : ∀ a, a < 4096 ∨ 4294967296 ≤ a → M1 a = addL l M a) : Oth M (addL l M1) := by
 intro a ha
 rw [addL_out hl (by omega), h _ (by omega), addL_out hl (by omega)]
theorem Par.trans {A B C : Int → Int} (h : Par A B) (k : Par B C) : Par A C := fun i hi => (k i hi).trans (h i hi)
theorem Oth.trans {A B C : Int → Int} (h : Oth A B) (k : Oth B C) : Oth A C := fun i hi => (k i hi).trans (h i hi)
theorem Par.refl (A : Int → Int) : Par A A := fun _ _ => rfl
theorem Oth.refl (A : Int → Int) : Oth A A := fun _ _ => rfl
def outM (M : Int → Int) (p : Spt) : Int → Int := upd (upd M p.tags (twWith (M p.tags) p.s 0)) p.item 0
theorem outM_oth {M : Int → Int} {p : Spt} {a : Int} (h1 : a ≠ p.tags) (h2 : a ≠ p.item) : outM M p a = M a := by unfold outM; rw [upd_other _ h2, upd_other _ h1]
theorem Rep.out {M : Int → Int} {T : Tab} (h : Rep M T) {p : Spt} (hp : p.ok) : Rep (outM M p) (T.set p (0, 0)) :=
 h.slot hp (by omega) (by omega) (by unfold outM; rw [upd_other _ (fun e => Spt.item_tags hp hp e.symm), upd_same]) (by unfold outM; rw [upd_same]) fun a _ _ h1 h2 => outM_oth h1 h2
theorem Rep.put {M : Int → Int} {T : Tab} (h : Rep M T) {p : Spt} (hp : p.ok) {tg rf : Int} (t0 : 0 ≤ tg) (t1 : tg ≤ 255) : Rep (putM M p tg rf) (T.set p (tg, rf)) :=
 h.slot hp t0 t1 putM_tags (putM_item hp) fun a _ _ h1 h2 => putM_oth h1 h2
theorem Rep.addL {M : Int → Int} {T : Tab} (h : Rep M T) {l : List Int} (hl : ∀ a ∈ l, 64 ≤ a ∧ a < 128) : Rep (addL l M) T := h.low fun a h1 h2 => addL_out hl (by omega)
def hoE (z : Hom) : Bool := z.ln == 0
section
variable {k tag ref : Int} {way : List Spt} {m1 m2 : List Int} {o u : Otm}
theorem ho_marks3 : ∀ (l : List Int) (s : AW), l ≠ [] → ∃ s', Gos hoE hoStep l.length (s, ⟨3, k, way, tag, ref, l, o, u, m2⟩) (s', ⟨4, k, way, tag, ref, [], o, u, m2⟩) ∧ s'.M = addL l s.M ∧ Kp s s'
 | [], s, h => absurd rfl h
 | [a], s, _ => by
   refine ⟨awAdd a 1 s, ⟨rfl, ?_⟩, rfl, Kp.add _ _ _⟩
   show (_, _) = hoStep _
   rw [hoStep_3 _ _ rfl]
   rfl
 | a :: b :: l, s, _ => by
   obtain ⟨s', g, e, kp⟩ := ho_marks3 (b :: l) (awAdd a 1 s) (by simp)
   refine ⟨s', ⟨rfl, ?_⟩, e, (Kp.add _ _ _).trans kp⟩
   rw [hoStep_3 _ _ rfl]
   exact g
theorem ho_marks6 : ∀ (l : List Int) (s : AW), l ≠ [] → ∃ s', Gos hoE hoStep l.length (s, ⟨6, k, way, tag, ref, m1, o, u, l⟩) (s', ⟨if k - 1 < 0 then 0 else 1, k - 1, way, tag, ref, m1, o, u, []⟩) ∧ s'.M = addL l s.M ∧ Kp s s'
 | [], s, h => absurd rfl h
 | [a], s, _ => by
   refine ⟨awAdd a 1 s, ⟨rfl, ?_⟩, rfl, Kp.add _ _ _⟩
   show (_, _) = hoStep _
   rw [hoStep_6 _ _ rfl]
   rfl
 | a :: b :: l, s, _ => by
   obtain ⟨s', g, e, kp⟩ := ho_marks6 (b :: l) (awAdd a 1 s) (by simp)
   refine ⟨s', ⟨rfl, ?_⟩, e, (Kp.add _ _ _).trans kp⟩
   rw [hoStep_6 _ _ rfl]
   exact g
theorem ho_out (s : AW) (hp : (hoAt way k).ok) : ∃ s' o', Gos hoE hoStep 3 (s, ⟨4, k, way, tag, ref, m1, ⟨0, 0⟩, ⟨0, 0⟩, m2⟩) (s', ⟨5, k, way, tag, ref, m1, o', ⟨0, 0⟩, m2⟩) ∧ s'.M = outM s.M (hoAt way k) ∧ Kp s s' := by
 obtain ⟨p, hpe⟩ : ∃ p, p = hoAt way k := ⟨_, rfl⟩
 have e1 : hoStep (s, ⟨4, k, way, tag, ref, m1, ⟨0, 0⟩, ⟨0, 0⟩, m2⟩) = (awLoad p.tags s, ⟨4, k, way, tag, ref, m1, ⟨1, s.M p.tags⟩, ⟨0, 0⟩, m2⟩) := by rw [hoStep_4 _ _ rfl, hpe]; rfl
 have e2 : ∀ s wd, hoStep (s, ⟨4, k, way, tag, ref, m1, ⟨1, wd⟩, ⟨0, 0⟩, m2⟩) = (awStore p.tags (twWith wd p.s 0) s, ⟨4, k, way, tag, ref, m1, ⟨2, wd⟩, ⟨0, 0⟩, m2⟩) := fun s wd => by rw [hoStep_4 _ _ rfl, hpe]; rfl
 have e3 : ∀ s wd, hoStep (s, ⟨4, k, way, tag, ref, m1, ⟨2, wd⟩, ⟨0, 0⟩, m2⟩) = (awStore p.item 0 s, ⟨5, k, way, tag, ref, m1, ⟨3, wd⟩, ⟨0, 0⟩, m2⟩) := fun s wd => by rw [hoStep_4 _ _ rfl, hpe]; rfl
 rw [← hpe]
 exact ⟨_, _, (Gos.one rfl e1).trans ((Gos.one rfl (e2 _ _)).trans (Gos.one rfl (e3 _ _))), rfl, (Kp.load _ _).trans ((Kp.store _ _ _).trans (Kp.store _ _ _))⟩
theorem ho_put (s : AW) (hp : (hoAt way (k + 1)).ok) : ∃ s' u', Gos hoE hoStep 3 (s, ⟨5, k, way, tag, ref, m1, o, ⟨0, 0⟩, m2⟩) (s', ⟨6, k, way, tag, ref, m1, o, u', m2⟩) ∧ s'.M = putM s.M (hoAt way (k + 1)) tag ref ∧ Kp s s' := by
 obtain ⟨p, hpe⟩ : ∃ p, p = hoAt way (k + 1) := ⟨_, rfl⟩
 have hne : ∀ s : AW, (awStore p.item ref s).M p.tags = s.M p.tags := fun s => upd_other _ fun x => Spt.item_tags (by rw [hpe]; exact hp) (by rw [hpe]; exact hp) x.symm
 have e1 : hoStep (s, ⟨5, k, way, tag, ref, m1, o, ⟨0, 0⟩, m2⟩) = (awStore p.item ref s, ⟨5, k, way, tag, ref, m1, o, ⟨1, 0⟩, m2⟩) := by rw [hoStep_5 _ _ rfl, hpe]; rfl
 have e2 : ∀ s, hoStep (s, ⟨5, k, way, tag, ref, m1, o, ⟨1, 0⟩, m2⟩) = (awLoad p.tags s, ⟨5, k, way, tag, ref, m1, o, ⟨2, s.M p.tags⟩, m2⟩) := fun s => by rw [hoStep_5 _ _ rfl, hpe]; rfl
 have e3 : ∀ s wd, hoStep (s, ⟨5, k, way, tag, ref, m1, o, ⟨2, wd⟩, m2⟩) = (awStore p.tags (twWith wd p.s tag) s, ⟨6, k, way, tag, ref, m1, o, ⟨3, wd⟩, m2⟩) := fun s wd => by rw [hoStep_5 _ _ rfl, hpe]; rfl
 rw [← hpe]
 refine ⟨_, _, (Gos.one rfl e1).trans ((Gos.one rfl (e2 _)).trans (Gos.one rfl (e3 _ _))), ?_, (Kp.store _ _ _).trans ((Kp.load _ _).trans (Kp.store _ _ _))⟩
 · show upd (upd s.M p.item ref) p.tags (twWith ((awStore p.item ref s).M p.tags) p.s tag) = putM s.M p tag ref
   rw [hne]
   rfl
end
theorem ho_one {s : AW} {z : Hom} {T : Tab} {p d : Spt} {way : List Spt} {k : Int} (hR : Rep s.M T) (ln : z.ln = 1) (hk : z.k = k) (hw : z.way = way) (ep : hoAt way k = p) (ed : hoAt way (k + 1) = d) (hp : p.ok) (hd : d.ok) (hn : ¬ d.is p)
 (ht : (T p).1 ≠ 0) (r0 : 1 ≤ (T p).2) (r1 : (T p).2 ≤ 9223372036854775807) :
 ∃ n s' z', n ≤ 12 ∧ Gos hoE hoStep n (s, z) (s', z') ∧ Kp s s' ∧ Rep s'.M ((T.set p (0, 0)).set d (T p)) ∧ Oth s.M s'.M ∧ Par s.M s'.M ∧ z'.way = way ∧ z'.k = k - 1 ∧ z'.ln = (if k - 1 < 0 then 0 else 1) := by
 obtain ⟨ln', k', way', tag, ref, m1, o, u, m2⟩ := z
 dsimp only at ln hk hw
 subst ln hk hw
 have htg := hR.tg p hp
 have hit := hR.it p hp
 have htb := twTag_bd (s.M p.tags) p.s
 obtain ⟨tg, hte⟩ : ∃ tg, tg = (T p).1 := ⟨_, rfl⟩
 obtain ⟨rf, hre⟩ : ∃ rf, rf = (T p).2 := ⟨_, rfl⟩
 have hTp : T p = (tg, rf) := by rw [hte, hre]
 rw [htg, ← hte] at htb
 rw [← hte] at ht htg
 rw [← hre] at r0 r1 hit
 have e1 : hoStep (s, ⟨1, k', way', tag, ref, m1, o, u, m2⟩) = (awLoad p.tags s, ⟨2, k', way', tg, ref, m1, o, u, m2⟩) := by
  rw [hoStep_1 _ _ rfl]
  unfold Hom.s
  dsimp only
  rw [ep, htg]
 obtain ⟨s1, hs1⟩ : ∃ x, x = awLoad p.tags s := ⟨_, rfl⟩
 have m1e : s1.M = s.M := by rw [hs1]; rfl
 have e2 : hoStep (s1, ⟨2, k', way', tg, ref, m1, o, u, m2⟩) = (awLoad p.item s1, ⟨3, k', way', tg, rf, mk2 p d, ⟨0, 0⟩, ⟨0, 0⟩, mk2 p d⟩) := by
  rw [hoStep_2 _ _ rfl]
  unfold Hom.s Hom.t
  dsimp only
  rw [ep, ed, m1e, hit, IntWalk.wrap64_in _ (by omega)]
  have : ptNew tg rf = ⟨0, 0⟩ := by unfold ptNew; rw [if_pos (by omega)]
  rw [this]
 have hml := mk2_len p d
 have hmb := mk2_bd64 hp hd
 have hmn : mk2 p d ≠ [] := fun e => by rw [e] at hml; simp at hml
 obtain ⟨l, hl⟩ : ∃ l, l = mk2 p d := ⟨_, rfl⟩
 rw [← hl] at e2 hml hmb hmn
 obtain ⟨s3, g3, h3, k3⟩ := ho_marks3 (k := k') (way := way') (tag := tg) (ref := rf) (o := ⟨0, 0⟩) (u := ⟨0, 0⟩) (m2 := l) l (awLoad p.item s1) hmn
 obtain ⟨s4, o', g4, h4, k4⟩ := ho_out (k := k') (way := way') (tag := tg) (ref := rf) (m1 := []) (m2 := l) s3 (by rw [ep]; exact hp)
 obtain ⟨s5, u', g5, h5, k5⟩ := ho_put (k := k') (way := way') (tag := tg) (ref := rf) (m1 := []) (o := o') (m2 := l) s4 (by rw [ed]; exact hd)
 obtain ⟨s6, g6, h6, k6⟩ := ho_marks6 (k := k') (way := way') (tag := tg) (ref := rf) (m1 := []) (o := o') (u := u') l s5 hmn
 rw [ep] at h4
 rw [ed] at h5
 have h3 : s3.M = addL l s.M := by rw [h3]; show addL l s1.M = _; rw [m1e]
 have q1 := hp.tags
 have q2 := hp.item
 have q3 := hd.tags
 have q4 := hd.item
 have far : ∀ a, a < 4096 ∨ 4294967296 ≤ a → s5.M a = addL l s.M a := fun a ha => by
  rw [h5, putM_oth (by omega) (by omega), h4, outM_oth (by omega) (by omega), h3]
 refine ⟨1 + (1 + (l.length + (3 + (3 + l.length)))), s6, _, by omega, Gos.trans (Gos.one rfl (e1.trans (by rw [← hs1]))) (Gos.trans (Gos.one rfl e2) (g3.trans (g4.trans (g5.trans g6)))), ?_, ?_, ?_, ?_, rfl, rfl, rfl⟩
 · have k1 : Kp s s1 := by rw [hs1]; exact Kp.load _ _
   exact k1.trans ((Kp.load _ _).trans (k3.trans (k4.trans (k5.trans k6))))
 · rw [h6, h5, h4, h3, hTp]
   exact ((((hR.addL hmb).out hp).put hd (by omega) (by omega)).addL hmb)
 · rw [h6]; exact marks_oth hmb far
 · rw [h6]; exact marks_par fun a ha => far a (.inl ha)
inductive Hopd (b : Int) : Tab → Tab → Prop where
 | refl (T : Tab) : Hopd b T T
 | hop {T T' : Tab} (p q : Spt) (hp : p.ok) (hq : q.ok) (pb : p.b = b) (qb : q.b = b) (hn : ¬ q.is p) (ht : (T p).1 ≠ 0) (hz : T q = (0, 0)) (ho : fnvOther p.q (T p).1 b = q.q) (h : Hopd b ((T.set p (0, 0)).set q (T p)) T') : Hopd b T T'
def wat (l : List Spt) (j : Nat) : Spt := l.getD j sp20
theorem hoAt_wat (l : List Spt) (j : Nat) : hoAt l (j : Int) = wat l j := by unfold hoAt wat; rw [if_neg (by omega)]; simp
theorem ho_all {b : Int} {way : List Spt} (hok : ∀ j, j < way.length → (wat way j).ok ∧ (wat way j).b = b) (hnd : ∀ i j, i < j → j < way.length → (wat way i).q ≠ (wat way j).q) :
 ∀ (n : Nat) (s : AW) (z : Hom) (T : Tab), Rep s.M T → z.ln = 1 → z.k = n → z.way = way → n + 1 < way.length → T (wat way (n + 1)) = (0, 0) →
  (∀ j, j ≤ n → (T (wat way j)).1 ≠ 0 ∧ 1 ≤ (T (wat way j)).2 ∧ (T (wat way j)).2 ≤ 9223372036854775807 ∧ fnvOther (wat way j).q (T (wat way j)).1 b = (wat way (j + 1)).q) →
  ∃ c s' z' T', c ≤ 12 * (n + 1) ∧ Gos hoE hoStep c (s, z) (s', z') ∧ z'.ln = 0 ∧ Kp s s' ∧ Rep s'.M T' ∧ Oth s.M s'.M ∧ Par s.M s'.M ∧ Hopd b T T' ∧ T' (wat way 0) = (0, 0) := by
 intro n
 induction n with
 | zero =>
   intro s z T hR ln hk hw hl hf hj
   obtain ⟨a1, a2, a3, a4⟩ := hj 0 (Nat.le_refl _)
   have hn : ¬ (wat way 1).is (wat way 0) := fun x => hnd 0 1 (by omega) (by omega) x.2.1.symm
   have hp := hok 0 (by omega)
   have hq := hok 1 (by omega)
   obtain ⟨c, s', z', hc, g, kp, r, ot, pa, w1, w2, w3⟩ := ho_one (p := wat way 0) (d := wat way 1) hR ln hk hw (hoAt_wat way 0) (hoAt_wat way 1) hp.1 hq.1 hn a1 a2 a3
   rw [if_pos (by omega)] at w3
   exact ⟨c, s', z', _, by omega, g, w3, kp, r, ot, pa, .hop _ _ hp.1 hq.1 hp.2 hq.2 hn a1 hf a4 (.refl _), by rw [Tab.set_ne _ (fun x => hn ⟨x.1.symm, x.2.1.symm, x.2.2.symm⟩), Tab.set_same]⟩
 | succ n ih =>
   intro s z T hR ln hk hw hl hf hj
   obtain ⟨a1, a2, a3, a4⟩ := hj (n + 1) (Nat.le_refl _)
   have hn : ¬ (wat way (n + 1 + 1)).is (wat way (n + 1)) := fun x => hnd (n + 1) (n + 1 + 1) (by omega) (by omega) x.2.1.symm
   have hp := hok (n + 1) (by omega)
   have hq := hok (n + 1 + 1) (by omega)
   have e2 : hoAt way (((n + 1 : Nat) : Int) + 1) = wat way (n + 1 + 1) := hoAt_wat way (n + 1 + 1)
   obtain ⟨c, s', z', hc, g, kp, r, ot, pa, w1, w2, w3⟩ := ho_one (p := wat way (n + 1)) (d := wat way (n + 1 + 1)) hR ln hk hw (hoAt_wat way (n + 1)) e2 hp.1 hq.1 hn a1 a2 a3
   rw [if_neg (by omega)] at w3
   have hne1 : ¬ (wat way (n + 1)).is (wat way (n + 1 + 1)) := fun x => hn ⟨x.1.symm, x.2.1.symm, x.2.2.symm⟩
   obtain ⟨c2, s2, z2, T2, hc2, g2, l2, kp2, r2, ot2, pa2, hp2, f2⟩ := ih s' z' _ r w3 (by omega) w1 (by omega) (by rw [Tab.set_ne _ hne1, Tab.set_same]) (fun j hj' => by
    have b1 : ¬ (wat way j).is (wat way (n + 1 + 1)) := fun x => hnd j (n + 1 + 1) (by omega) (by omega) x.2.1
    have b2 : ¬ (wat way j).is (wat way (n + 1)) := fun x => hnd j (n + 1) (by omega) (by omega) x.2.1
    rw [Tab.set_ne _ b1, Tab.set_ne _ b2]
    exact hj j (by omega))
   exact ⟨c + c2, s2, z2, T2, by omega, g.trans g2, l2, kp.trans kp2, r2, ot.trans ot2, pa.trans pa2, .hop _ _ hp.1 hq.1 hp.2 hq.2 hn a1 hf a4 hp2, f2⟩
end
section
set_option linter.unusedVariables false
open Go.RowKit
def wyE (z : Wym) : Bool := z.ln == 0
def PathL (M : Int → Int) (b : Int) : List Spt → Prop
 | [] => False
 | [p] => p.ok ∧ p.b = b ∧ twTag (M p.tags) p.s = 0
 | p :: q :: l => p.ok ∧ p.b = b ∧ twTag (M p.tags) p.s ≠ 0 ∧ fnvOther p.q (twTag (M p.tags) p.s) b = q.q ∧ PathL M b (q :: l)
theorem twFree_neg {w k : Int} (h : twFree w < 0) (k0 : 0 ≤ k) (k1 : k ≤ 3) : twTag w k ≠ 0 := by
 unfold twFree at h
 have hk4 : k = 0 ∨ k = 1 ∨ k = 2 ∨ k = 3 := by omega
 intro e
 rcases hk4 with rfl | rfl | rfl | rfl
 · rw [if_pos e] at h; omega
 · repeat' split at h
   all_goals first | omega | contradiction
 · repeat' split at h
   all_goals first | omega | contradiction
 · repeat' split at h
   all_goals first | omega | contradiction
theorem twFree_pos {w : Int} (h : 0 ≤ twFree w) : twTag w (twFree w) = 0 := by
 unfold twFree at h ⊢
 by_cases c0 : twTag w 0 = 0
 · rw [if_pos c0]; exact c0
 · rw [if_neg c0] at h ⊢
   by_cases c1 : twTag w 1 = 0
   · rw [if_pos c1]; exact c1
   · rw [if_neg c1] at h ⊢
     by_cases c2 : twTag w 2 = 0
     · rw [if_pos c2]; exact c2
     · rw [if_neg c2] at h ⊢
       by_cases c3 : twTag w 3 = 0
       · rw [if_pos c3]; exact c3
       · rw [if_neg c3] at h; omega
theorem WyL.inj {b : Int} {l : List Wnd} (h : WyL b l) {i j : Nat} {m m' : Wnd} (hi : l[i]? = some m) (hj : l[j]? = some m') (he : m.q = m'.q) : i = j := by
 obtain ⟨i1, i2⟩ := List.getElem?_eq_some_iff.1 hi
 obtain ⟨j1, j2⟩ := List.getElem?_eq_some_iff.1 hj
 have hn := List.pairwise_iff_getElem.1 h.nd
 rcases Nat.lt_trichotomy i j with g | g | g
 · exact absurd (by rw [List.getElem_map, List.getElem_map, i2, j2]; exact he) (hn i j (by rw [List.length_map]; exact i1) (by rw [List.length_map]; exact j1) g)
 · exact g
 · exact absurd (by rw [List.getElem_map, List.getElem_map, i2, j2]; exact he.symm) (hn j i (by rw [List.length_map]; exact j1) (by rw [List.length_map]; exact i1) g)
def WyN (M : Int → Int) (b a c : Int) (l : List Wnd) (n : Wnd) : Prop :=
 (n.fr = -1 ∧ (n.q = a ∨ n.q = c)) ∨ ∃ (i : Nat) (m : Wnd), n.fr = i ∧ l[i]? = some m ∧ twFree (M (plTags b m.q)) < 0 ∧ n.q = fnvOther m.q (twTag (M (plTags b m.q)) n.sl) b
def WyPar (M : Int → Int) (b a c : Int) (l : List Wnd) : Prop := ∀ (j : Nat) (n : Wnd), l[j]? = some n → WyN M b a c l n
theorem wyPath_neg (b : Int) (l : List Wnd) (f : Nat) (s : Int) (acc : List Spt) : wyPath b l f (-1) s acc = acc := by
 cases f with
 | zero => rfl
 | succ f => unfold wyPath; rw [if_pos (by omega)]
theorem wyPath_L {M : Int → Int} {b a c : Int} {l : List Wnd} (hL : WyL b l) (hP : WyPar M b a c l) (b0 : 1 ≤ b) (b1 : b ≤ 12) : ∀ (f i : Nat) (s : Int) (acc : List Spt) (n : Wnd), l[i]? = some n → i + 1 ≤ f → PathL M b (⟨b, n.q, s⟩ :: acc) →
 (((⟨b, n.q, s⟩ : Spt) :: acc).map Spt.q).Nodup → (∀ x ∈ (⟨b, n.q, s⟩ : Spt) :: acc, ∃ (j : Nat) (m : Wnd), i ≤ j ∧ l[j]? = some m ∧ m.q = x.q) →
 PathL M b (wyPath b l f i s acc) ∧ ((wyPath b l f i s acc).map Spt.q).Nodup ∧ ((wat (wyPath b l f i s acc) 0).q = a ∨ (wat (wyPath b l f i s acc) 0).q = c) := by
 intro f
 induction f with
 | zero => intro i s acc n hn hf; omega
 | succ f ih =>
   intro i s acc n hn hf h1 h2 h3
   unfold wyPath
   rw [if_neg (by omega), Int.toNat_natCast, hn]
   dsimp only
   rcases hP i n hn with ⟨g1, g2⟩ | ⟨i', m, g1, g2, g3, g4⟩
   · rw [g1, wyPath_neg]
     exact ⟨h1, h2, g2⟩
   · have hfr := hL.fr i n hn
     have hmq := hL.q m (List.mem_of_getElem? g2)
     rw [g1]
     refine ih i' n.sl _ m g2 (by omega) ⟨⟨b0, b1, hmq.1, hmq.2, by show 0 ≤ n.sl; omega, by show n.sl ≤ 3; omega⟩, rfl, twFree_neg g3 (by show 0 ≤ n.sl; omega) (by show n.sl ≤ 3; omega), g4.symm, h1⟩ ?_ fun x hx => ?_
     · rw [List.map_cons]
       refine List.nodup_cons.2 ⟨fun hx => ?_, h2⟩
       obtain ⟨x, hx1, hx2⟩ := List.mem_map.1 hx
       obtain ⟨j, m', q1, q2, q3⟩ := h3 x hx1
       have := hL.inj q2 g2 (by rw [q3, hx2])
       omega
     · rcases List.mem_cons.1 hx with e | e
       · exact ⟨i', m, Nat.le_refl _, g2, by rw [e]⟩
       · obtain ⟨j, m', q1, q2, q3⟩ := h3 x e
         exact ⟨j, m', by omega, q2, q3⟩
theorem WyN.more {M : Int → Int} {b a c : Int} {l : List Wnd} {n m : Wnd} (h : WyN M b a c l n) : WyN M b a c (wyNode l m) n := by
 rcases h with h | ⟨i, m', h1, h2, h3, h4⟩
 · exact .inl h
 · exact .inr ⟨i, m', h1, by rw [wyNode_old _ _ _ (List.getElem?_eq_some_iff.1 h2).1]; exact h2, h3, h4⟩
theorem WyPar.node {M : Int → Int} {b a c : Int} {l : List Wnd} (h : WyPar M b a c l) {n : Wnd} (hn : WyN M b a c l n) : WyPar M b a c (wyNode l n) := by
 intro j m hj
 by_cases g : j < l.length
 · rw [wyNode_old _ _ _ g] at hj
   exact (h j m hj).more
 · unfold wyNode at hj ⊢
   by_cases hh : wyHas l n.q = true
   · rw [if_pos hh] at hj
     have := (List.getElem?_eq_some_iff.1 hj).1
     omega
   · have e := hn.more (m := n)
     unfold wyNode at e
     rw [if_neg hh] at hj e ⊢
     rw [List.getElem?_append_right (by omega)] at hj
     have h0 := (List.getElem?_eq_some_iff.1 hj).1
     simp at h0
     have e0 : j - l.length = 0 := by omega
     rw [e0] at hj
     simp at hj
     rw [← hj]
     exact e
theorem wyGrow_old {b mo q tg : Int} {i j : Nat} {l : List Wnd} (hj : j < l.length) (k : Nat) : (wyGrow b mo i q tg k l)[j]? = l[j]? := by
 induction k with
 | zero => rfl
 | succ k ih =>
   unfold wyGrow
   rw [wyAdd_old _ _ _ _ (Nat.lt_of_lt_of_le hj (wyGrow_len b mo i q tg k l)), ih]
theorem WyPar.grow {M : Int → Int} {b a c mo q : Int} {l : List Wnd} (h : WyPar M b a c l) {i : Nat} {m : Wnd} (hi : l[i]? = some m) (hq : m.q = q) (hf : twFree (M (plTags b q)) < 0) (k : Nat) : WyPar M b a c (wyGrow b mo i q (M (plTags b q)) k l) := by
 induction k with
 | zero => exact h
 | succ k ih =>
   unfold wyGrow wyAdd
   split
   · exact ih.node (.inr ⟨i, m, rfl, (wyGrow_old (List.getElem?_eq_some_iff.1 hi).1 k).trans hi, by rw [hq]; exact hf, by rw [hq]⟩)
   · exact ih
theorem wyGrow_max {b mo q tg : Int} {i : Nat} {l : List Wnd} {L : Nat} (hl : l.length ≤ L) (hmo : mo ≤ L) (k : Nat) : (wyGrow b mo i q tg k l).length ≤ L := by
 induction k with
 | zero => exact hl
 | succ k ih =>
   unfold wyGrow wyAdd
   split
   · have := (wyNode_len (wyGrow b mo i q tg k l) ⟨fnvOther q (twTag tg k) b, i, k⟩).2
     omega
   · exact ih
structure WayOk (M : Int → Int) (b a c : Int) (L : Nat) (way : List Spt) : Prop where
 p : PathL M b way
 nd : (way.map Spt.q).Nodup
 hd : (wat way 0).q = a ∨ (wat way 0).q = c
 len : way.length ≤ L
theorem wy_run {M : Int → Int} {b a c mo : Int} {L : Nat} (hmo : mo ≤ L) : ∀ (d : Nat) (s : AW) (z : Wym), s.M = M → WyGo b z → z.mo = mo → WyPar M b a c z.l → z.l.length ≤ L → L - z.i ≤ d →
 ∃ n s' z', n ≤ d ∧ 1 ≤ n ∧ Gos wyE wyStep n (s, z) (s', z') ∧ s'.M = M ∧ Kp s s' ∧ z'.ln = 0 ∧ (z'.way = [] ∨ WayOk M b a c L z'.way) := by
 intro d
 induction d with
 | zero => intro s z _ hg _ _ hl hd; have := hg.i; omega
 | succ d ih =>
   intro s z hs hg hm hp hl hd
   have hstep := hg.step (s := s)
   obtain ⟨ln, l, i, b', mo', way⟩ := z
   obtain ⟨g1, g2, g3, b0, b1, hL, hi⟩ := hg
   dsimp only at g1 g2 g3 hL hi hm hp hl hd
   subst g1 g2 g3 hm
   have hle : l[i]? = some l[i] := List.getElem?_eq_getElem hi
   obtain ⟨nd, hnd⟩ : ∃ nd, nd = l[i] := ⟨_, rfl⟩
   rw [← hnd] at hle
   have hq : wyQ ⟨1, l, i, b', mo', []⟩ = nd.q := by unfold wyQ; dsimp only; rw [hle]
   have htg : wyTg s ⟨1, l, i, b', mo', []⟩ = M (plTags b' nd.q) := by unfold wyTg; dsimp only; rw [hq, hs]
   have hnq := hL.q nd (List.mem_of_getElem? hle)
   by_cases hf : 0 ≤ twFree (M (plTags b' nd.q))
   · have e : wyStep (s, ⟨1, l, i, b', mo', []⟩) = (awLoad (plTags b' nd.q) s, ⟨0, l, i, b', mo', wyPath b' l (i + 1) i (twFree (M (plTags b' nd.q))) []⟩) := by
      unfold wyStep; dsimp only
      rw [if_neg (by omega), htg, if_pos hf, hq]
     have hfb := twFree_bd (M (plTags b' nd.q))
     have hpl := wyPath_L hL hp b0 b1 (i + 1) i (twFree (M (plTags b' nd.q))) [] nd hle (Nat.le_refl _) ⟨⟨b0, b1, hnq.1, hnq.2, hf, hfb.2⟩, rfl, twFree_pos hf⟩ (by simp) (fun x hx => by
      rw [List.mem_singleton.1 hx]; exact ⟨i, nd, Nat.le_refl _, hle, rfl⟩)
     have hpo := wyPath_ok hL b0 b1 (i + 1) (i : Int) (twFree (M (plTags b' nd.q))) [] (fun _ => by omega) (fun p hp => by cases hp)
     have hlen := hpo.2
     rw [List.length_nil] at hlen
     exact ⟨1, _, _, by omega, Nat.le_refl _, Gos.one rfl e, hs, Kp.load _ _, rfl, .inr ⟨hpl.1, hpl.2.1, hpl.2.2, by dsimp only; omega⟩⟩
   · have e : wyStep (s, ⟨1, l, i, b', mo', []⟩) = (awLoad (plTags b' nd.q) s, ⟨if i + 1 = (wyGrow b' mo' i nd.q (M (plTags b' nd.q)) 4 l).length then 0 else 1, wyGrow b' mo' i nd.q (M (plTags b' nd.q)) 4 l, i + 1, b', mo', []⟩) := by
      unfold wyStep; dsimp only
      rw [if_neg (by omega), htg, if_neg hf, hq]
     rw [e] at hstep
     by_cases cl : i + 1 = (wyGrow b' mo' i nd.q (M (plTags b' nd.q)) 4 l).length
     · rw [if_pos cl] at e
       exact ⟨1, _, _, by omega, Nat.le_refl _, Gos.one rfl e, hs, Kp.load _ _, rfl, .inl rfl⟩
     · rw [if_neg cl] at e hstep
       have hg2 : WyGo b' ⟨1, wyGrow b' mo' i nd.q (M (plTags b' nd.q)) 4 l, i + 1, b', mo', []⟩ := by
        rcases hstep with ⟨x, -⟩ | ⟨-, x⟩
        · dsimp only at x; omega
        · exact x
       obtain ⟨n, s', z', h1, h2, h3, h4, h5, h6, h7⟩ := ih (awLoad (plTags b' nd.q) s) _ hs hg2 rfl (hp.grow hle rfl (by omega) 4) (wyGrow_max hl hmo 4) (by dsimp only; omega)
       exact ⟨1 + n, s', z', by omega, by omega, (Gos.one rfl e).trans h3, h4, (Kp.load _ _).trans h5, h6, h7⟩
theorem wyPar_new (M : Int → Int) (b a c : Int) : WyPar M b a c (wyNode [⟨a, -1, 0⟩] ⟨c, -1, 0⟩) := by
 have h1 : WyPar M b a c [⟨a, -1, 0⟩] := fun j n hj => by
  have hj0 := (List.getElem?_eq_some_iff.1 hj).1
  simp at hj0
  subst hj0
  simp at hj
  subst hj
  exact .inl ⟨rfl, .inl rfl⟩
 exact h1.node (.inl ⟨rfl, .inr rfl⟩)
theorem wy_new {M : Int → Int} {b a c mo : Int} {L : Nat} (b0 : 1 ≤ b) (b1 : b ≤ 12) (ha : 0 ≤ a ∧ a < fnvSize b) (hc : 0 ≤ c ∧ c < fnvSize b) (hmo : mo ≤ L) (h2 : 2 ≤ L) (s : AW) (hs : s.M = M) :
 ∃ n s' z', n ≤ L ∧ 1 ≤ n ∧ Gos wyE wyStep n (s, wyNew b a c mo) (s', z') ∧ s'.M = M ∧ Kp s s' ∧ z'.ln = 0 ∧ (z'.way = [] ∨ WayOk M b a c L z'.way) := by
 have hg := wyNew_go (mo := mo) b0 b1 ha hc
 have e : wyNew b a c mo = ⟨1, wyNode [⟨a, -1, 0⟩] ⟨c, -1, 0⟩, 0, b, mo, []⟩ := by unfold wyNew; rw [if_pos ⟨ha.1, ha.2, hc.1, hc.2⟩]
 rw [e] at hg ⊢
 have hl := (wyNode_len [⟨a, -1, 0⟩] ⟨c, -1, 0⟩).2
 simp only [List.length_singleton] at hl
 exact wy_run hmo L s _ hs hg rfl (wyPar_new M b a c) (by dsimp only; omega) (by dsimp only; omega)
theorem PathL.at {M : Int → Int} {b : Int} : ∀ {l : List Spt}, PathL M b l → 1 ≤ l.length ∧ (∀ j, j < l.length → (wat l j).ok ∧ (wat l j).b = b) ∧ twTag (M (wat l (l.length - 1)).tags) (wat l (l.length - 1)).s = 0 ∧
 ∀ j, j + 1 < l.length → twTag (M (wat l j).tags) (wat l j).s ≠ 0 ∧ fnvOther (wat l j).q (twTag (M (wat l j).tags) (wat l j).s) b = (wat l (j + 1)).q
 | [], h => h.elim
 | [p], h => ⟨Nat.le_refl _, fun j hj => by
    have : j = 0 := by simp at hj; omega
    subst this; exact ⟨h.1, h.2.1⟩, h.2.2, fun j hj => by simp at hj⟩
 | p :: q :: l, h => by
   obtain ⟨h1, h2, h3, h4, h5⟩ := h
   obtain ⟨i1, i2, i3, i4⟩ := PathL.at h5
   refine ⟨by simp, fun j hj => ?_, i3, fun j hj => ?_⟩
   · cases j with
     | zero => exact ⟨h1, h2⟩
     | succ j => exact i2 j (by simpa using hj)
   · cases j with
     | zero => exact ⟨h3, h4⟩
     | succ j => exact i4 j (by simpa using hj)
theorem nodup_wat {l : List Spt} (h : (l.map Spt.q).Nodup) {i j : Nat} (hij : i < j) (hj : j < l.length) : (wat l i).q ≠ (wat l j).q := by
 have hn := List.pairwise_iff_getElem.1 h i j (by rw [List.length_map]; omega) (by rw [List.length_map]; exact hj) hij
 rw [List.getElem_map, List.getElem_map] at hn
 unfold wat
 rw [List.getD, List.getD, List.getElem?_eq_getElem hj, List.getElem?_eq_getElem (by omega : i < l.length)]
 exact hn
end
section
set_option linter.unusedVariables false
open Go.RowKit
def rmE (z : Rmm) : Bool := z.ln == 0
theorem rm_way {mo : Int} : ∀ (n : Nat) (s s' : AW) (y y' : Wym) (z : Rmm), z.ln = 3 → z.wy = y → n ≠ 0 → Gos wyE wyStep n (s, y) (s', y') → y'.ln = 0 →
 Gos rmE (rmStep mo) n (s, z) (if y'.way = [] then awNote 3 0 0 0 0 0 s' else s', rmFound ⟨3, z.b, z.a, z.c, y', z.ho, z.p, z.is⟩)
 | 0, _, _, _, _, _, _, _, h, _, _ => absurd rfl h
 | 1, s, s', y, y', z, ln, hy, _, g, l0 => by
   have e : wyStep (s, y) = (s', y') := (show (s', y') = wyStep (s, y) from g.2).symm
   refine Gos.one (by unfold rmE; dsimp only; rw [ln]; rfl) ?_
   rw [rmStep_3 _ _ _ ln, hy, e]
   dsimp only
   rw [if_pos l0]
 | n + 2, s, s', y, y', z, ln, hy, _, g, l0 => by
   obtain ⟨g1, g2⟩ := g
   have h1 : (wyStep (s, y)).2.ln ≠ 0 := fun e => by
    have := g2.1
    unfold wyE at this
    rw [e] at this
    cases this
   refine ⟨by unfold rmE; dsimp only; rw [ln]; rfl, ?_⟩
   rw [rmStep_3 _ _ _ ln, hy, if_neg h1]
   exact rm_way (n + 1) (wyStep (s, y)).1 s' (wyStep (s, y)).2 y' ⟨3, z.b, z.a, z.c, (wyStep (s, y)).2, z.ho, z.p, z.is⟩ rfl rfl (by omega) g2 l0
theorem rm_hops {mo : Int} : ∀ (n : Nat) (s s' : AW) (y y' : Hom) (z : Rmm), z.ln = 4 → z.ho = y → n ≠ 0 → Gos hoE hoStep n (s, y) (s', y') → y'.ln = 0 →
 Gos rmE (rmStep mo) n (s, z) (s', ⟨0, z.b, z.a, z.c, z.wy, y', z.p, true⟩)
 | 0, _, _, _, _, _, _, _, h, _, _ => absurd rfl h
 | 1, s, s', y, y', z, ln, hy, _, g, l0 => by
   have e : hoStep (s, y) = (s', y') := (show (s', y') = hoStep (s, y) from g.2).symm
   refine Gos.one (by unfold rmE; dsimp only; rw [ln]; rfl) ?_
   rw [rmStep_4 _ _ _ ln, hy, e]
   dsimp only
   rw [if_pos l0, if_pos l0]
 | n + 2, s, s', y, y', z, ln, hy, _, g, l0 => by
   obtain ⟨g1, g2⟩ := g
   have h1 : (hoStep (s, y)).2.ln ≠ 0 := fun e => by
    have := g2.1
    unfold hoE at this
    rw [e] at this
    cases this
   refine ⟨by unfold rmE; dsimp only; rw [ln]; rfl, ?_⟩
   rw [rmStep_4 _ _ _ ln, hy, if_neg h1, if_neg h1]
   exact rm_hops (n + 1) (hoStep (s, y)).1 s' (hoStep (s, y)).2 y' ⟨4, z.b, z.a, z.c, z.wy, (hoStep (s, y)).2, z.p, z.is⟩ rfl rfl (by omega) g2 l0
def FreeOk (b : Int) (T : Tab) : Prop := (∃ q : Spt, q.ok ∧ q.b = b ∧ (T q).1 = 0) → ∀ p : Spt, p.ok → p.b = b → ((T p).1 = 0 → T p = (0, 0)) ∧ ((T p).1 ≠ 0 → 1 ≤ (T p).2 ∧ (T p).2 ≤ 9223372036854775807)
structure RmR (b a c : Int) (T : Tab) (s s' : AW) (z' : Rmm) (T' : Tab) : Prop where
 ln : z'.ln = 0
 rep : Rep s'.M T'
 oth : Oth s.M s'.M
 par : Par s.M s'.M
 it : s'.it = s.it
 up : s.n ≤ s'.n
 res : (z'.is = true ∧ s'.nt = s.nt ∧ z'.p.ok ∧ z'.p.b = b ∧ (z'.p.q = a ∨ z'.p.q = c) ∧ T' z'.p = (0, 0) ∧ Hopd b T T') ∨
  (z'.is = false ∧ s'.M = s.M ∧ T' = T ∧ (∀ k, 0 ≤ k → k ≤ 3 → (T ⟨b, a, k⟩).1 ≠ 0) ∧ ∃ n1 h1, s'.nt = ntAdd s.nt ⟨n1, h1, 3, 0, 0, 0, 0, 0⟩ ∧ s.n ≤ n1 ∧ n1 ≤ s'.n)
section
variable {b a c mo : Int} {L : Nat} {T : Tab} {s : AW}
theorem rep_zero (R : Rep s.M T) (hT : FreeOk b T) {p : Spt} (hp : p.ok) (hb : p.b = b) (ht : twTag (s.M p.tags) p.s = 0) : T p = (0, 0) := by
 rw [R.tg p hp] at ht
 exact (hT ⟨p, hp, hb, ht⟩ p hp hb).1 ht
theorem rm_search (R : Rep s.M T) (b0 : 1 ≤ b) (b1 : b ≤ 12) (ha : 0 ≤ a ∧ a < fnvSize b) (hc : 0 ≤ c ∧ c < fnvSize b) (hmo : mo ≤ L) (h2 : 2 ≤ L) (hT : FreeOk b T) (hfa : twFree (s.M (plTags b a)) < 0) :
 ∃ n s' z' T', 1 ≤ n ∧ n ≤ 13 * L ∧ Gos rmE (rmStep mo) n (s, ⟨3, b, a, c, wyNew b a c mo, ho0, sp20, false⟩) (s', z') ∧ RmR b a c T s s' z' T' := by
 obtain ⟨n, s1, y, n1, n2, g, hM, kp, l0, hw⟩ := wy_new b0 b1 ha hc hmo h2 s rfl
 have G := rm_way (mo := mo) n s s1 _ y ⟨3, b, a, c, wyNew b a c mo, ho0, sp20, false⟩ rfl rfl (by omega) g l0
 dsimp only at G
 have R1 : Rep s1.M T := by rw [hM]; exact R
 rcases hw with hw | ⟨p1, p2, p3, p4⟩
 · rw [if_pos hw] at G
   have e : rmFound ⟨3, b, a, c, y, ho0, sp20, false⟩ = ⟨0, b, a, c, y, ho0, sp20, false⟩ := by unfold rmFound; dsimp only; rw [hw]
   rw [e] at G
   refine ⟨n, _, _, T, n2, by omega, G, rfl, R1, by show Oth s.M s1.M; rw [hM]; exact Oth.refl _, by show Par s.M s1.M; rw [hM]; exact Par.refl _, kp.it, kp.n, .inr ⟨rfl, hM, rfl, fun k k0 k1 => ?_, s1.n, s1.ho, ?_, kp.n, Int.le_refl _⟩⟩
   · rw [← R.tg ⟨b, a, k⟩ ⟨b0, b1, ha.1, ha.2, k0, k1⟩]
     exact twFree_neg hfa k0 k1
   · show ntAdd s1.nt _ = _
     rw [kp.nt]
 · obtain ⟨i1, i2, i3, i4⟩ := p1.at
   cases hway : y.way with
   | nil => rw [hway] at i1; simp at i1
   | cons p l =>
     rw [hway] at i1 i2 i3 i4 p2 p3 p4
     have hp0 := i2 0 (by simp)
     have hw0 : wat (p :: l) 0 = p := rfl
     rw [if_neg (by rw [hway]; simp)] at G
     have e : rmFound ⟨3, b, a, c, y, ho0, sp20, false⟩ = ⟨if 2 ≤ (p :: l).length then 4 else 0, b, a, c, y, hoNew (p :: l), p, if 2 ≤ (p :: l).length then false else true⟩ := by unfold rmFound; dsimp only; rw [hway]
     rw [e] at G
     by_cases c2 : 2 ≤ (p :: l).length
     · rw [if_pos c2, if_pos c2] at G
       obtain ⟨N, hN⟩ : ∃ N, N + 2 = (p :: l).length := ⟨(p :: l).length - 2, by omega⟩
       have elast : (p :: l).length - 1 = N + 1 := by omega
       rw [elast] at i3
       have hlast := i2 (N + 1) (by omega)
       rw [← hM] at i3
       have hz := rep_zero R1 hT hlast.1 hlast.2 i3
       have hfree : ∃ q : Spt, q.ok ∧ q.b = b ∧ (T q).1 = 0 := ⟨_, hlast.1, hlast.2, by rw [hz]⟩
       obtain ⟨m, s2, h', T', m1, g2, hl0, kp2, r2, o2, pa2, hd, hf⟩ := ho_all (b := b) (way := p :: l) i2 (fun i j hi hj => nodup_wat p2 hi hj) N s1 (hoNew (p :: l)) T R1 (by unfold hoNew; rw [if_pos c2]) (by unfold hoNew; dsimp only; omega) rfl (by omega) hz (fun j hj => by
        obtain ⟨u1, u2⟩ := i4 j (by omega)
        have hj2 := i2 j (by omega)
        rw [R.tg _ hj2.1] at u1 u2
        have := (hT hfree _ hj2.1 hj2.2).2 u1
        exact ⟨u1, this.1, this.2, u2⟩)
       have hm0 : m ≠ 0 := fun e => by
        subst e
        have : h' = hoNew (p :: l) := (Prod.ext_iff.1 g2).2
        rw [this] at hl0
        unfold hoNew at hl0
        rw [if_pos c2] at hl0
        dsimp only at hl0
        omega
       have G2 := rm_hops (mo := mo) m s1 s2 _ h' ⟨4, b, a, c, y, hoNew (p :: l), p, false⟩ rfl rfl hm0 g2 hl0
       dsimp only at G2
       refine ⟨n + m, s2, _, T', by omega, by omega, G.trans G2, rfl, r2, (by rw [hM] at o2; exact o2), (by rw [hM] at pa2; exact pa2), kp2.it.trans kp.it, Int.le_trans kp.n kp2.n, .inl ⟨rfl, kp2.nt.trans kp.nt, hp0.1, hp0.2, ?_, ?_, hd⟩⟩
       · exact p3
       · exact hf
     · rw [if_neg c2, if_neg c2] at G
       have hl : l = [] := by
        cases l with
        | nil => rfl
        | cons x l => simp at c2
       subst hl
       have i3 : twTag (s.M p.tags) p.s = 0 := i3
       refine ⟨n, s1, _, T, n2, by omega, G, rfl, R1, by rw [hM]; exact Oth.refl _, by rw [hM]; exact Par.refl _, kp.it, kp.n, .inl ⟨rfl, kp.nt, hp0.1, hp0.2, p3, rep_zero R hT hp0.1 hp0.2 i3, .refl _⟩⟩
theorem rm_run {h : Int} (R : Rep s.M T) (b0 : 1 ≤ b) (b1 : b ≤ 12) (h0 : 0 ≤ h) (h1 : h < 18446744073709551616) (hmo : mo ≤ L) (h2 : 2 ≤ L) (hT : FreeOk b T) :
 ∃ n s' z' T', 1 ≤ n ∧ n ≤ 2 + 13 * L ∧ Gos rmE (rmStep mo) n (s, rmNew b h) (s', z') ∧ RmR b (fnvBucket h b) (fnvOther (fnvBucket h b) (fnvTag h) b) T s s' z' T' := by
 have htg := fnvTag_bd h h0 h1
 have ha := fnvBucket_bd (h := h) b0 b1
 have hc := fnvOther_bd (b := b) ⟨ha.1, ha.2, htg.1, htg.2⟩
 have e : rmNew b h = ⟨1, b, fnvBucket h b, fnvOther (fnvBucket h b) (fnvTag h) b, wy0, ho0, sp20, false⟩ := by unfold rmNew; rw [if_pos ⟨b0, b1⟩]
 rw [e]
 obtain ⟨a, hae⟩ : ∃ a, a = fnvBucket h b := ⟨_, rfl⟩
 rw [← hae] at ha hc ⊢
 obtain ⟨c, hce⟩ : ∃ c, c = fnvOther a (fnvTag h) b := ⟨_, rfl⟩
 rw [← hce] at hc ⊢
 have e1 := rmStep_1 mo s ⟨1, b, a, c, wy0, ho0, sp20, false⟩ rfl
 dsimp only at e1
 by_cases f1 : 0 ≤ twFree (s.M (plTags b a))
 · rw [if_pos f1] at e1
   have hfb := twFree_bd (s.M (plTags b a))
   have hp : (⟨b, a, twFree (s.M (plTags b a))⟩ : Spt).ok := ⟨b0, b1, ha.1, ha.2, f1, hfb.2⟩
   exact ⟨1, _, _, T, Nat.le_refl _, by omega, Gos.one rfl e1, rfl, R, Oth.refl _, Par.refl _, rfl, (Kp.load _ _).n, .inl ⟨rfl, rfl, hp, rfl, .inl rfl, rep_zero R hT hp rfl (twFree_pos f1), .refl _⟩⟩
 · rw [if_neg f1] at e1
   by_cases ca : c = a
   · rw [if_pos ca] at e1
     unfold rmSearch at e1
     dsimp only at e1
     obtain ⟨n, s', z', T', n1, n2, g, r⟩ := rm_search (s := awLoad (plTags b a) s) R b0 b1 ha hc hmo h2 hT (by show twFree (s.M (plTags b a)) < 0; omega)
     have up := r.up
     refine ⟨1 + n, s', z', T', by omega, by omega, (Gos.one rfl e1).trans g, r.ln, r.rep, r.oth, r.par, r.it, by have : s.n + 1 ≤ s'.n := up; omega, ?_⟩
     rcases r.res with q | ⟨q1, q2, q3, q4, m1, m2, q5, q6, q7⟩
     · exact .inl q
     · exact .inr ⟨q1, q2, q3, q4, m1, m2, q5, by have : s.n + 1 ≤ m1 := q6; omega, q7⟩
   · rw [if_neg ca] at e1
     have e2 := rmStep_2 mo (awLoad (plTags b a) s) ⟨2, b, a, c, wy0, ho0, sp20, false⟩ rfl
     dsimp only at e2
     have hM2 : (awLoad (plTags b a) s).M = s.M := rfl
     rw [hM2] at e2
     by_cases f2 : 0 ≤ twFree (s.M (plTags b c))
     · rw [if_pos f2] at e2
       have hfb := twFree_bd (s.M (plTags b c))
       have hp : (⟨b, c, twFree (s.M (plTags b c))⟩ : Spt).ok := ⟨b0, b1, hc.1, hc.2, f2, hfb.2⟩
       exact ⟨1 + 1, _, _, T, by omega, by omega, (Gos.one rfl e1).trans (Gos.one rfl e2), rfl, R, Oth.refl _, Par.refl _, rfl, ((Kp.load _ _).trans (Kp.load _ _)).n, .inl ⟨rfl, rfl, hp, rfl, .inr rfl, rep_zero R hT hp rfl (twFree_pos f2), .refl _⟩⟩
     · rw [if_neg f2] at e2
       unfold rmSearch at e2
       dsimp only at e2
       obtain ⟨n, s', z', T', n1, n2, g, r⟩ := rm_search (s := awLoad (plTags b c) (awLoad (plTags b a) s)) R b0 b1 ha hc hmo h2 hT (by show twFree (s.M (plTags b a)) < 0; omega)
       have up := r.up
       refine ⟨1 + (1 + n), s', z', T', by omega, by omega, (Gos.one rfl e1).trans ((Gos.one rfl e2).trans g), r.ln, r.rep, r.oth, r.par, r.it, by have : s.n + 1 + 1 ≤ s'.n := up; omega, ?_⟩
       rcases r.res with q | ⟨q1, q2, q3, q4, m1, m2, q5, q6, q7⟩
       · exact .inl q
       · exact .inr ⟨q1, q2, q3, q4, m1, m2, q5, by have : s.n + 1 + 1 ≤ m1 := q6; omega, q7⟩
end
theorem Hopd.other {b : Int} {T T' : Tab} (h : Hopd b T T') : ∀ q : Spt, q.b ≠ b → T' q = T q := by
 induction h with
 | refl T => exact fun _ _ => rfl
 | @hop T T' p q hp hq pb qb hn ht hz ho h ih =>
   intro x hx
   rw [ih x hx, Tab.set_ne _ (fun k => hx (k.1.trans qb)), Tab.set_ne _ (fun k => hx (k.1.trans pb))]
end
section
set_option linter.unusedVariables false
open Go.RowKit
theorem plSpots_eq (t : Int) : plSpots t = 4 * fnvSize (plOld t) + 4 * fnvSize (plNow t) := by unfold plSpots; omega
theorem plAt_lt {t : Int} {n : Nat} (h : (n : Int) < plSpots t) : plAt t n = if (n : Int) < 4 * fnvSize (plOld t) then ⟨plOld t, (n : Int) / 4, (n : Int) % 4⟩ else ⟨plNow t, ((n : Int) - 4 * fnvSize (plOld t)) / 4, (n : Int) % 4⟩ := by
 have hm : (n : Int) % plSpots t = n := Int.emod_eq_of_lt (by omega) h
 unfold plAt plAtBits plAtN
 rw [hm]
 by_cases c : (n : Int) < 4 * fnvSize (plOld t)
 · rw [if_pos c, if_pos c, if_pos c]
 · rw [if_neg c, if_neg c, if_neg c]
def plIn (t b : Int) : Prop := b = plOld t ∨ (b = plNow t ∧ plNow t ≠ 0)
theorem plAt_on {t : Int} {p : Spt} (hp : p.ok) (hb : plIn t p.b) : ∃ n : Nat, (n : Int) < plSpots t ∧ plAt t n = p := by
 have h1 := hp.q0
 have h2 := hp.q1
 have h3 := hp.s0
 have h4 := hp.s1
 have hs := plSpots_eq t
 have hz1 := fnvSize_bd (plOld t)
 have hz2 := fnvSize_bd (plNow t)
 have hn := plNow_cases t
 obtain ⟨pb, pq, ps⟩ := p
 dsimp only at *
 by_cases c : pb = plOld t
 · subst c
   refine ⟨(pq * 4 + ps).toNat, by omega, ?_⟩
   rw [plAt_lt (by omega), if_pos (by omega)]
   congr 1 <;> omega
 · have e : pb = plNow t := by rcases hb with x | x; exact absurd x c; exact x.1
   subst e
   refine ⟨(4 * fnvSize (plOld t) + (pq * 4 + ps)).toNat, by omega, ?_⟩
   rw [plAt_lt (by omega), if_neg (by omega)]
   congr 1 <;> omega
theorem plAt_uniq {t : Int} {n m : Nat} (hn : (n : Int) < plSpots t) (hm : (m : Int) < plSpots t) (h : plAt t n = plAt t m) : n = m := by
 have ho := plOld_bd t
 have hc := plNow_cases t
 have hs := plSpots_eq t
 rw [plAt_lt hn, plAt_lt hm] at h
 by_cases c : (n : Int) < 4 * fnvSize (plOld t) <;> by_cases d : (m : Int) < 4 * fnvSize (plOld t)
 · rw [if_pos c, if_pos d] at h
   simp only [Spt.mk.injEq] at h
   omega
 · rw [if_pos c, if_neg d] at h
   simp only [Spt.mk.injEq] at h
   exfalso
   rcases hc with g | g
   · have : fnvSize (plNow t) = 0 := by rw [g]; rfl
     omega
   · omega
 · rw [if_neg c, if_pos d] at h
   simp only [Spt.mk.injEq] at h
   exfalso
   rcases hc with g | g
   · have : fnvSize (plNow t) = 0 := by rw [g]; rfl
     omega
   · omega
 · rw [if_neg c, if_neg d] at h
   simp only [Spt.mk.injEq] at h
   omega
theorem plAt_tab {t : Int} {n : Nat} (hn : (n : Int) < plSpots t) : plIn t (plAt t n).b := by
 have hs := plSpots_eq t
 rw [plAt_lt hn]
 by_cases c : (n : Int) < 4 * fnvSize (plOld t)
 · rw [if_pos c]; exact .inl rfl
 · rw [if_neg c]
   refine .inr ⟨rfl, fun e => ?_⟩
   have : fnvSize (plNow t) = 0 := by rw [e]; rfl
   omega
def tC (g : Int × Int → Int) (T : Tab) (t : Int) : Nat → Int
 | 0 => 0
 | n + 1 => tC g T t n + g (T (plAt t n))
theorem tC_congr {g : Int × Int → Int} {T T' : Tab} {t : Int} : ∀ {n : Nat}, (∀ i : Nat, i < n → g (T' (plAt t i)) = g (T (plAt t i))) → tC g T' t n = tC g T t n
 | 0, _ => rfl
 | n + 1, h => by
   show tC g T' t n + _ = tC g T t n + _
   rw [tC_congr (n := n) fun i hi => h i (by omega), h n (by omega)]
theorem tC_set {g : Int × Int → Int} {T : Tab} {t : Int} {p : Spt} {x : Int × Int} {N : Nat} (hN : (N : Int) = plSpots t) (hp : p.ok) (hb : plIn t p.b) : tC g (T.set p x) t N = tC g T t N + g x - g (T p) := by
 obtain ⟨k, hk, hkp⟩ := plAt_on hp hb
 have hk : k < N := by omega
 have key : ∀ n : Nat, n ≤ N → tC g (T.set p x) t n = tC g T t n + if k < n then g x - g (T p) else 0 := by
  intro n
  induction n with
  | zero => intro _; rw [if_neg (by omega)]; rfl
  | succ n ih =>
    intro hn
    show tC g (T.set p x) t n + _ = tC g T t n + _ + _
    rw [ih (by omega)]
    by_cases c : n = k
    · subst c
      rw [if_neg (by omega), if_pos (by omega), hkp, Tab.set_same]
      omega
    · have : ¬ (plAt t n).is p := fun e => c (plAt_uniq (by omega) (by omega) ((Spt.is_eq e).trans hkp.symm))
      rw [Tab.set_ne _ this]
      by_cases d : k < n
      · rw [if_pos d, if_pos (by omega)]; omega
      · rw [if_neg d, if_neg (by omega)]; omega
 rw [key N (Nat.le_refl _), if_pos hk]
 omega
theorem tC_out {g : Int × Int → Int} {T : Tab} {t : Int} {p : Spt} {x : Int × Int} {N : Nat} (hN : (N : Int) ≤ plSpots t) (hb : ¬ plIn t p.b) : tC g (T.set p x) t N = tC g T t N :=
 tC_congr fun i hi => by rw [Tab.set_ne _ fun e => hb (by rw [← e.1]; exact plAt_tab (by omega))]
theorem Hopd.sum {b : Int} {T T' : Tab} (h : Hopd b T T') {g : Int × Int → Int} (g0 : g (0, 0) = 0) {t : Int} {N : Nat} (hN : (N : Int) = plSpots t) : tC g T' t N = tC g T t N := by
 induction h with
 | refl T => rfl
 | @hop T T' p q hp hq pb qb hn ht hz ho h ih =>
   rw [ih]
   by_cases c : plIn t b
   · rw [tC_set hN hq (by rw [qb]; exact c), tC_set hN hp (by rw [pb]; exact c), Tab.set_ne _ hn, hz, g0]
     omega
   · rw [tC_out (by omega) (by rw [qb]; exact c), tC_out (by omega) (by rw [pb]; exact c)]
theorem tC_move {g : Int × Int → Int} (g0 : g (0, 0) = 0) {T : Tab} {t : Int} {p q : Spt} {N : Nat} (hN : (N : Int) = plSpots t) (hp : p.ok) (hq : q.ok) (pb : plIn t p.b) (qb : plIn t q.b) (hn : ¬ q.is p) (hz : T q = (0, 0)) :
 tC g ((T.set p (0, 0)).set q (T p)) t N = tC g T t N := by
 rw [tC_set hN hq qb, tC_set hN hp pb, Tab.set_ne _ hn, hz, g0]
 omega
def gOcc (x : Int × Int) : Int := if x.1 = 0 then 0 else 1
theorem gOcc_bd (x : Int × Int) : 0 ≤ gOcc x ∧ gOcc x ≤ 1 := by unfold gOcc; split <;> omega
theorem tC_mono {g : Int × Int → Int} (g0 : ∀ x, 0 ≤ g x) {T : Tab} {t : Int} {n m : Nat} (h : n ≤ m) : tC g T t n ≤ tC g T t m := by
 induction m with
 | zero => rw [Nat.le_zero.1 h]; exact Int.le_refl _
 | succ m ih =>
   rcases Nat.lt_or_ge n (m + 1) with c | c
   · have := g0 (T (plAt t m))
     have := ih (by omega)
     show _ ≤ tC g T t m + _
     omega
   · have : n = m + 1 := by omega
     rw [this]; exact Int.le_refl _
theorem tC_pos {g : Int × Int → Int} (g0 : ∀ x, 0 ≤ g x) {T : Tab} {t : Int} (n : Nat) : 0 ≤ tC g T t n := tC_mono (n := 0) g0 (Nat.zero_le _)
def tabOf (M : Int → Int) : Tab := fun p => (twTag (M p.tags) p.s, M p.item)
theorem Rep.of {M : Int → Int} (h : ∀ p : Spt, p.ok → 0 ≤ M p.tags ∧ M p.tags < 4294967296) : Rep M (tabOf M) := ⟨fun _ _ => rfl, fun _ _ => rfl, h⟩
theorem Rep.val {M : Int → Int} {T : Tab} (h : Rep M T) {p : Spt} (hp : p.ok) : (twTag (M p.tags) p.s, M p.item) = T p := by rw [h.tg p hp, h.it p hp]
def sumN (I : Nat → Int) : Nat → Int
 | 0 => 0
 | n + 1 => sumN I n + I n
def gAt (r : Nat) (x : Int × Int) : Int := if x.1 > 0 ∧ x.2 = r then 1 else 0
theorem gAt_sum (x : Int × Int) (h1 : 0 ≤ x.1) (h2 : x.1 ≠ 0 → 0 ≤ x.2) : ∀ n : Nat, sumN (fun r => gAt r x) n = if x.1 ≠ 0 ∧ x.2 < n then 1 else 0
 | 0 => by
   by_cases c : x.1 ≠ 0 ∧ x.2 < ((0 : Nat) : Int)
   · have := h2 c.1; omega
   · rw [if_neg c]; rfl
 | n + 1 => by
   show sumN _ n + gAt n x = _
   rw [gAt_sum x h1 h2 n]
   unfold gAt
   by_cases c0 : x.1 = 0
   · rw [if_neg (by omega), if_neg (by omega), if_neg (by omega)]; rfl
   · have := h2 c0
     by_cases c : x.2 < n
     · rw [if_pos ⟨c0, c⟩, if_neg (by omega), if_pos (by omega)]; rfl
     · by_cases d : x.2 = n
       · rw [if_neg (by omega), if_pos (by omega), if_pos (by omega)]; rfl
       · rw [if_neg (by omega), if_neg (by omega), if_neg (by omega)]; rfl
theorem sumN_add (I J : Nat → Int) : ∀ n, sumN (fun r => I r + J r) n = sumN I n + sumN J n
 | 0 => rfl
 | n + 1 => by
   show sumN _ n + (I n + J n) = sumN I n + I n + (sumN J n + J n)
   rw [sumN_add I J n]; omega
theorem sumN_zero : ∀ n, sumN (fun _ => 0) n = 0
 | 0 => rfl
 | n + 1 => by show sumN _ n + 0 = 0; rw [sumN_zero n]; rfl
theorem sumN_congr {I J : Nat → Int} : ∀ {n : Nat}, (∀ i, i < n → I i = J i) → sumN I n = sumN J n
 | 0, _ => rfl
 | n + 1, h => by show sumN I n + I n = sumN J n + J n; rw [sumN_congr fun i hi => h i (by omega), h n (by omega)]
end
end Go.Proofs.YtfnmdafpdcgcmaaGreat
