/- A table that is filled, plain: each slot is empty, or has an item of a key whose place it is, under its tag; no item stands twice. -/
import Derived.Test.YthpedifjclofoaaGreatBaH
namespace Go.Proofs.YthpedifjclofoaaGreat
set_option linter.unusedSimpArgs false
set_option linter.unusedVariables false
open Go.RowKit
theorem twTag_with {w s t u : Int} (w0 : 0 ≤ w) (s0 : 0 ≤ s) (s1 : s ≤ 3) (t0 : 0 ≤ t) (t1 : t ≤ 255) (u0 : 0 ≤ u) (u1 : u ≤ 3) : twTag (twWith w s t) u = if u = s then t else twTag w u := by
  have hw : twWith w s t = w - twTag w s * twUnit s + t * twUnit s := by unfold twWith; rw [if_pos ⟨s0, s1, t0, t1⟩]
  rw [hw]
  have cs : s = 0 ∨ s = 1 ∨ s = 2 ∨ s = 3 := by omega
  have cu : u = 0 ∨ u = 1 ∨ u = 2 ∨ u = 3 := by omega
  rcases cs with rfl | rfl | rfl | rfl <;> rcases cu with rfl | rfl | rfl | rfl <;> simp only [twTag0, twTag1, twTag2, twTag3, twU0, twU1, twU2, twU3] <;> simp <;> omega
theorem twWith_32 {w s t : Int} (w0 : 0 ≤ w) (w1 : w < 4294967296) (s0 : 0 ≤ s) (s1 : s ≤ 3) (t0 : 0 ≤ t) (t1 : t ≤ 255) : 0 ≤ twWith w s t ∧ twWith w s t < 4294967296 := by
  have hw : twWith w s t = w - twTag w s * twUnit s + t * twUnit s := by unfold twWith; rw [if_pos ⟨s0, s1, t0, t1⟩]
  rw [hw]
  have cs : s = 0 ∨ s = 1 ∨ s = 2 ∨ s = 3 := by omega
  rcases cs with rfl | rfl | rfl | rfl <;> simp only [twTag0, twTag1, twTag2, twTag3, twU0, twU1, twU2, twU3] <;> omega
theorem tw_zero {w : Int} (w0 : 0 ≤ w) (w1 : w < 4294967296) (h : ∀ s, 0 ≤ s → s ≤ 3 → twTag w s = 0) : w = 0 := by
  have h0 := h 0 (by omega) (by omega)
  have h1 := h 1 (by omega) (by omega)
  have h2 := h 2 (by omega) (by omega)
  have h3 := h 3 (by omega) (by omega)
  rw [twTag0] at h0; rw [twTag1] at h1; rw [twTag2] at h2; rw [twTag3] at h3
  omega
/-- Addresses of spots. -/
theorem Spt.tags_ne {p q : Spt} (hp : p.ok) (hq : q.ok) (hb : p.b = q.b) (h : p.q ≠ q.q) : p.tags ≠ q.tags := by
  have h1 := hp.tags.2.2
  have h2 := hq.tags.2.2
  rw [hb] at h1
  omega
theorem Spt.item_ne_tags {p q : Spt} (hp : p.ok) (hq : q.ok) (hb : p.b = q.b) : p.item ≠ q.tags := by
  have h1 := hp.tags.2.2
  have h2 := hq.tags.2.2
  have h3 := hp.item.2.2
  have := hp.s0
  have := hp.s1
  rw [hb] at h1
  omega
theorem Spt.item_inj {p q : Spt} (hp : p.ok) (hq : q.ok) (hb : p.b = q.b) (h : p.item = q.item) : p = q := by
  have h1 := hp.tags.2.2
  have h2 := hq.tags.2.2
  have h3 := hp.item.2.2
  have h4 := hq.item.2.2
  have := hp.s0
  have := hp.s1
  have := hq.s0
  have := hq.s1
  rw [hb] at h1
  obtain ⟨a, b, c⟩ := p
  obtain ⟨a', b', c'⟩ := q
  dsimp only at *
  subst hb
  have : b = b' := by omega
  have : c = c' := by omega
  subst this
  simp_all
def fulIt (k : ByteArray) : It := ⟨k, ⟨#[]⟩, 0, 0, -1, 0⟩
def keyH (k : ByteArray) : Int := fnvHash k.data.toList
/-- What a slot of a filled table has. -/
def FilAt (b : Int) (ks : List ByteArray) (M : Int → Int) (p : Spt) : Prop :=
  (twTag (M p.tags) p.s = 0 ∧ M p.item = 0) ∨ ∃ (r : Nat) (k : ByteArray), ks[r]? = some k ∧ M p.item = (r : Int) + 1 ∧ twTag (M p.tags) p.s = fnvTag (keyH k) ∧ (b, p.q) ∈ plPair (keyH k) b
structure Fil (b : Int) (ks : List ByteArray) (M : Int → Int) : Prop where
  b0 : 1 ≤ b
  b1 : b ≤ 3
  wd : M 2 = b
  slot : ∀ p : Spt, p.ok → p.b = b → FilAt b ks M p
  word : ∀ p : Spt, p.ok → p.b = b → 0 ≤ M p.tags ∧ M p.tags < 4294967296
  inj : ∀ p q : Spt, p.ok → q.ok → p.b = b → q.b = b → M p.item = M q.item → M p.item ≠ 0 → p = q
  oth : ∀ a, a ≠ 2 → (a < 4096 + 8 * fnvSize b ∨ 4096 + 16 * fnvSize b ≤ a) → M a = 0
theorem Fil.start {b : Int} (ks : List ByteArray) (b0 : 1 ≤ b) (b1 : b ≤ 3) : Fil b ks (aw0 b).M := by
  have hz : ∀ a, a ≠ 2 → (aw0 b).M a = 0 := fun a h => by unfold aw0; dsimp only; rw [upd_other _ h]
  refine ⟨b0, b1, ?_, fun p hp hb => .inl ⟨?_, hz _ (by have := hp.item; omega)⟩, fun p hp hb => ?_, fun p q hp hq h1 h2 h3 h4 => absurd (hz _ (by have := hp.item; omega)) h4, fun a h _ => hz a h⟩
  · unfold aw0; dsimp only; rw [upd_same, plWord0 b0 (by omega)]
  · rw [hz _ (by have := hp.tags; omega)]
    have := hp.s0
    have := hp.s1
    have cs : p.s = 0 ∨ p.s = 1 ∨ p.s = 2 ∨ p.s = 3 := by omega
    rcases cs with h | h | h | h <;> rw [h] <;> decide
  · rw [hz _ (by have := hp.tags; omega)]; decide
theorem fnvTag_key (k : ByteArray) : 1 ≤ fnvTag (keyH k) ∧ fnvTag (keyH k) ≤ 255 := fnvTag_bd _ (fnvHash_bd _).1 (fnvHash_bd _).2
theorem Fil.free {b : Int} {ks : List ByteArray} {M : Int → Int} (h : Fil b ks M) {p : Spt} (hp : p.ok) (hb : p.b = b) : twTag (M p.tags) p.s = 0 ↔ M p.item = 0 := by
  rcases h.slot p hp hb with ⟨h1, h2⟩ | ⟨r, k, h1, h2, h3, h4⟩
  · simp [h1, h2]
  · have := fnvTag_key k
    rw [h2, h3]
    omega
/-- What a Put leaves. -/
def putM (M : Int → Int) (p : Spt) (tag ref : Int) : Int → Int := upd (upd M p.item ref) p.tags (twWith (M p.tags) p.s tag)
theorem putM_tags {M : Int → Int} {p : Spt} {tag ref : Int} : putM M p tag ref p.tags = twWith (M p.tags) p.s tag := by unfold putM; rw [upd_same]
theorem putM_item {M : Int → Int} {p : Spt} {tag ref : Int} (hp : p.ok) : putM M p tag ref p.item = ref := by
  unfold putM; rw [upd_other _ (Spt.item_ne_tags hp hp rfl), upd_same]
theorem putM_oth {M : Int → Int} {p : Spt} {tag ref : Int} {a : Int} (h1 : a ≠ p.tags) (h2 : a ≠ p.item) : putM M p tag ref a = M a := by unfold putM; rw [upd_other _ h1, upd_other _ h2]
theorem Fil.put {b : Int} {ks : List ByteArray} {M : Int → Int} (h : Fil b ks M) {p : Spt} (hp : p.ok) (hb : p.b = b) {r : Nat} {k : ByteArray} (hk : ks[r]? = some k) (hin : (b, p.q) ∈ plPair (keyH k) b)
    (hfr : twTag (M p.tags) p.s = 0) (hno : ∀ q : Spt, q.ok → q.b = b → M q.item ≠ (r : Int) + 1) : Fil b ks (putM M p (fnvTag (keyH k)) ((r : Int) + 1)) := by
  have ht := fnvTag_key k
  have hpt := hp.tags
  have hpi := hp.item
  have hq1 := hp.q1
  have hq0 := hp.q0
  have hs0 := hp.s0
  have hs1 := hp.s1
  rw [hb] at hq1
  rw [hb] at hpt
  have hw := h.word p hp hb
  have key : ∀ q : Spt, q.ok → q.b = b → q ≠ p → twTag (putM M p (fnvTag (keyH k)) ((r : Int) + 1) q.tags) q.s = twTag (M q.tags) q.s ∧ putM M p (fnvTag (keyH k)) ((r : Int) + 1) q.item = M q.item := by
    intro q hq hqb hne
    refine ⟨?_, putM_oth (Spt.item_ne_tags hq hp (by rw [hqb, hb])) fun e => hne (Spt.item_inj hq hp (by rw [hqb, hb]) e)⟩
    by_cases e : q.q = p.q
    · have et : q.tags = p.tags := by unfold Spt.tags; rw [e, hqb, hb]
      rw [et, putM_tags, twTag_with hw.1 hs0 hs1 (by omega) ht.2 hq.s0 hq.s1, if_neg]
      intro es
      apply hne
      obtain ⟨x, y, z⟩ := q
      obtain ⟨x', y', z'⟩ := p
      dsimp only at *
      simp_all
    · rw [putM_oth (Spt.tags_ne hq hp (by rw [hqb, hb]) e) (fun x => Spt.item_ne_tags hp hq (by rw [hqb, hb]) x.symm)]
  refine ⟨h.b0, h.b1, ?_, fun q hq hqb => ?_, fun q hq hqb => ?_, fun q q' hq hq' hqb hqb' => ?_, fun a ha h2 => ?_⟩
  · rw [putM_oth (by omega) (by omega)]; exact h.wd
  · by_cases e : q = p
    · subst e
      refine .inr ⟨r, k, hk, putM_item hq, ?_, hin⟩
      rw [putM_tags, twTag_with hw.1 hs0 hs1 (by omega) ht.2 hs0 hs1, if_pos rfl]
    · obtain ⟨k1, k2⟩ := key q hq hqb e
      rcases h.slot q hq hqb with g | ⟨r', k', g1, g2, g3, g4⟩
      · exact .inl ⟨by rw [k1]; exact g.1, by rw [k2]; exact g.2⟩
      · exact .inr ⟨r', k', g1, by rw [k2]; exact g2, by rw [k1]; exact g3, g4⟩
  · by_cases e : q.tags = p.tags
    · rw [e, putM_tags]; exact twWith_32 hw.1 hw.2 hs0 hs1 (by omega) ht.2
    · rw [putM_oth e (fun x => Spt.item_ne_tags hp hq (by rw [hqb, hb]) x.symm)]; exact h.word q hq hqb
  · by_cases e : q = p
    · by_cases e' : q' = p
      · intro _ _; rw [e, e']
      · rw [e, putM_item hp, (key q' hq' hqb' e').2]
        intro g _
        exact absurd g.symm (hno q' hq' hqb')
    · rw [(key q hq hqb e).2]
      by_cases e' : q' = p
      · rw [e', putM_item hp]
        intro g _
        exact absurd g (hno q hq hqb)
      · rw [(key q' hq' hqb' e').2]
        exact h.inj q q' hq hq' hqb hqb'
  · rw [putM_oth (by omega) (by omega)]; exact h.oth a ha h2
/-- What a run of a Put leaves. -/
theorem put_run (p : Spt) (tag ref : Int) (s : AW) (hp : p.ok) : runN ptOver (fun z => putStep p tag ref z.1 z.2) 9 (s, ⟨0, 0⟩) = (3, ⟨putM s.M p tag ref, s.n + 3, ⟨2, p.tags, s.M p.tags, twWith (s.M p.tags) p.s tag⟩, s.tk, s.ho, s.it, s.nt⟩, ⟨3, s.M p.tags⟩) := by
  have e : upd s.M p.item ref p.tags = s.M p.tags := upd_other _ fun x => Spt.item_ne_tags hp hp rfl x.symm
  have h1 : putStep p tag ref s ⟨0, 0⟩ = (awStore p.item ref s, ⟨1, 0⟩) := by unfold putStep; rw [if_pos rfl]
  have h2 : putStep p tag ref (awStore p.item ref s) ⟨1, 0⟩ = (awLoad p.tags (awStore p.item ref s), ⟨2, s.M p.tags⟩) := by
    unfold putStep; rw [if_neg (by decide), if_pos rfl]; unfold awStore; dsimp only; rw [e]
  have h3 : putStep p tag ref (awLoad p.tags (awStore p.item ref s)) ⟨2, s.M p.tags⟩ = (awStore p.tags (twWith (s.M p.tags) p.s tag) (awLoad p.tags (awStore p.item ref s)), ⟨3, s.M p.tags⟩) := by
    unfold putStep; rw [if_neg (by dsimp only; omega), if_neg (by dsimp only; omega), if_pos rfl]
  rw [runN_on _ _ rfl, runN_on _ _ (by show ptOver (putStep p tag ref s ⟨0, 0⟩).2 = false; rw [h1]; rfl)]
  try dsimp only
  rw [h1]
  try dsimp only
  rw [h2]
  try dsimp only
  rw [runN_on _ _ rfl]
  try dsimp only
  rw [h3, runN_over _ _ rfl]
  unfold awStore awLoad putM
  try dsimp only
  rw [e]
  refine Prod.ext (by rfl) (Prod.ext ?_ rfl)
  show AW.mk _ _ _ _ _ _ _ = AW.mk _ _ _ _ _ _ _
  congr 1
  omega
end Go.Proofs.YthpedifjclofoaaGreat
