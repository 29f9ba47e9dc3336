/- A table that is filled, plain: each slot is empty, or has an item of a key whose place it is, under its tag; no item stands twice. Layer 23, plain: an Evict by itself, in a table that does not grow. Slots of tables, plain: what they hold, spot by spot. Layer 15, plain: a Find by itself. Layer 13: nestboxlaw13.Slot. Layer 13: Lay: an item is laid at a slot of one of its key's places, if that slot is free. Layers 15, 25, plain: a world of one table, each key once at most; what a Find finds there. Layer 25, plain: a Store in a world of one table: the way to the key, and the way home. Layer 25, plain: a Store in a world of one table: what comes behind the Find. Layer 25, plain: a Store in a world of one table, whole: the key is there; it is not. -/
import Derived.Test.YtifkfhnbkjkakaaGreatDoorZrBaH
import Derived.Test.YtifkfhnbkjkakaaGreatDoorZrSp
import Derived.BigQuiet
import Derived.Deep.QuietTactic
import Derived.Test.YtifkfhnbkjkakaaGreatDoorZrFwA
namespace Go.Proofs.YtifkfhnbkjkakaaGreatDoor
set_option linter.unusedSimpArgs false
set_option linter.unusedVariables false
set_option maxHeartbeats 2000000
set_option maxRecDepth 100000
section
open Go.RowKit
theorem twTag_with {w s t u : Int} (w0 : 0 ≤ w) (s0 : 0 ≤ s) (s1 : s ≤ 3) (t0 : 0 ≤ t) (t1 : t ≤ 255) (u0 : 0 ≤ u) (u1 : u ≤ 3) : twTag (twWith w s t) u = if u = s then t else twTag w u := by
 have hw : twWith w s t = w - twTag w s * twUnit s + t * twUnit s := by unfold twWith; rw [if_pos ⟨s0, s1, t0, t1⟩]
 rw [hw]
 have cs : s = 0 ∨ s = 1 ∨ s = 2 ∨ s = 3 := by omega
 have cu : u = 0 ∨ u = 1 ∨ u = 2 ∨ u = 3 := by omega
 rcases cs with rfl | rfl | rfl | rfl <;> rcases cu with rfl | rfl | rfl | rfl <;> simp only [twTag0, twTag1, twTag2, twTag3, twU0, twU1, twU2, twU3] <;> simp <;> omega
theorem twWith_32 {w s t : Int} (w0 : 0 ≤ w) (w1 : w < 4294967296) (s0 : 0 ≤ s) (s1 : s ≤ 3) (t0 : 0 ≤ t) (t1 : t ≤ 255) : 0 ≤ twWith w s t ∧ twWith w s t < 4294967296 := by
 have hw : twWith w s t = w - twTag w s * twUnit s + t * twUnit s := by unfold twWith; rw [if_pos ⟨s0, s1, t0, t1⟩]
 rw [hw]
 have cs : s = 0 ∨ s = 1 ∨ s = 2 ∨ s = 3 := by omega
 rcases cs with rfl | rfl | rfl | rfl <;> simp only [twTag0, twTag1, twTag2, twTag3, twU0, twU1, twU2, twU3] <;> omega
theorem Spt.tags_ne {p q : Spt} (hp : p.ok) (hq : q.ok) (hb : p.b = q.b) (h : p.q ≠ q.q) : p.tags ≠ q.tags := by
 have h1 := hp.tags.2.2
 have h2 := hq.tags.2.2
 rw [hb] at h1
 omega
theorem Spt.item_ne_tags {p q : Spt} (hp : p.ok) (hq : q.ok) (hb : p.b = q.b) : p.item ≠ q.tags := by
 have h1 := hp.tags.2.2
 have h2 := hq.tags.2.2
 have h3 := hp.item.2.2
 have := hp.s0
 have := hp.s1
 rw [hb] at h1
 omega
theorem Spt.item_inj {p q : Spt} (hp : p.ok) (hq : q.ok) (hb : p.b = q.b) (h : p.item = q.item) : p = q := by
 have h1 := hp.tags.2.2
 have h2 := hq.tags.2.2
 have h3 := hp.item.2.2
 have h4 := hq.item.2.2
 have := hp.s0
 have := hp.s1
 have := hq.s0
 have := hq.s1
 rw [hb] at h1
 obtain ⟨a, b, c⟩ := p
 obtain ⟨a', b', c'⟩ := q
 dsimp only at *
 subst hb
 have : b = b' := by omega
 have : c = c' := by omega
 subst this
 simp_all
def keyH (k : ByteArray) : Int := fnvHash k.data.toList
def FilAt (b : Int) (ks : List ByteArray) (M : Int → Int) (p : Spt) : Prop :=
 (twTag (M p.tags) p.s = 0 ∧ M p.item = 0) ∨ ∃ (r : Nat) (k : ByteArray), ks[r]? = some k ∧ M p.item = (r : Int) + 1 ∧ twTag (M p.tags) p.s = fnvTag (keyH k) ∧ (b, p.q) ∈ plPair (keyH k) b
structure Fil (b : Int) (ks : List ByteArray) (M : Int → Int) : Prop where
 b0 : 1 ≤ b
 b1 : b ≤ 3
 wd : M 2 = b
 slot : ∀ p : Spt, p.ok → p.b = b → FilAt b ks M p
 word : ∀ p : Spt, p.ok → p.b = b → 0 ≤ M p.tags ∧ M p.tags < 4294967296
 inj : ∀ p q : Spt, p.ok → q.ok → p.b = b → q.b = b → M p.item = M q.item → M p.item ≠ 0 → p = q
 oth : ∀ a, a ≠ 2 → (a < 4096 + 8 * fnvSize b ∨ 4096 + 16 * fnvSize b ≤ a) → M a = 0
theorem Fil.start {b : Int} (ks : List ByteArray) (b0 : 1 ≤ b) (b1 : b ≤ 3) : Fil b ks (aw0 b).M := by
 have hz : ∀ a, a ≠ 2 → (aw0 b).M a = 0 := fun a h => by unfold aw0; dsimp only; rw [upd_other _ h]
 refine ⟨b0, b1, ?_, fun p hp hb => .inl ⟨?_, hz _ (by have := hp.item; omega)⟩, fun p hp hb => ?_, fun p q hp hq h1 h2 h3 h4 => absurd (hz _ (by have := hp.item; omega)) h4, fun a h _ => hz a h⟩
 · unfold aw0; dsimp only; rw [upd_same, plWord0 b0 (by omega)]
 · rw [hz _ (by have := hp.tags; omega)]
   have := hp.s0
   have := hp.s1
   have cs : p.s = 0 ∨ p.s = 1 ∨ p.s = 2 ∨ p.s = 3 := by omega
   rcases cs with h | h | h | h <;> rw [h] <;> decide
 · rw [hz _ (by have := hp.tags; omega)]; decide
theorem fnvTag_key (k : ByteArray) : 1 ≤ fnvTag (keyH k) ∧ fnvTag (keyH k) ≤ 255 := fnvTag_bd _ (fnvHash_bd _).1 (fnvHash_bd _).2
theorem Fil.free {b : Int} {ks : List ByteArray} {M : Int → Int} (h : Fil b ks M) {p : Spt} (hp : p.ok) (hb : p.b = b) : twTag (M p.tags) p.s = 0 ↔ M p.item = 0 := by
 rcases h.slot p hp hb with ⟨h1, h2⟩ | ⟨r, k, h1, h2, h3, h4⟩
 · simp [h1, h2]
 · have := fnvTag_key k
   rw [h2, h3]
   omega
def putM (M : Int → Int) (p : Spt) (tag ref : Int) : Int → Int := upd (upd M p.item ref) p.tags (twWith (M p.tags) p.s tag)
theorem putM_tags {M : Int → Int} {p : Spt} {tag ref : Int} : putM M p tag ref p.tags = twWith (M p.tags) p.s tag := by unfold putM; rw [upd_same]
theorem putM_item {M : Int → Int} {p : Spt} {tag ref : Int} (hp : p.ok) : putM M p tag ref p.item = ref := by
 unfold putM; rw [upd_other _ (Spt.item_ne_tags hp hp rfl), upd_same]
theorem putM_oth {M : Int → Int} {p : Spt} {tag ref : Int} {a : Int} (h1 : a ≠ p.tags) (h2 : a ≠ p.item) : putM M p tag ref a = M a := by unfold putM; rw [upd_other _ h1, upd_other _ h2]
theorem Fil.put {b : Int} {ks : List ByteArray} {M : Int → Int} (h : Fil b ks M) {p : Spt} (hp : p.ok) (hb : p.b = b) {r : Nat} {k : ByteArray} (hk : ks[r]? = some k) (hin : (b, p.q) ∈ plPair (keyH k) b)
 (hfr : twTag (M p.tags) p.s = 0) (hno : ∀ q : Spt, q.ok → q.b = b → M q.item ≠ (r : Int) + 1) : Fil b ks (putM M p (fnvTag (keyH k)) ((r : Int) + 1)) := by
 have ht := fnvTag_key k
 have hpt := hp.tags
 have hpi := hp.item
 have hq1 := hp.q1
 have hq0 := hp.q0
 have hs0 := hp.s0
 have hs1 := hp.s1
 rw [hb] at hq1
 rw [hb] at hpt
 have hw := h.word p hp hb
 have key : ∀ q : Spt, q.ok → q.b = b → q ≠ p → twTag (putM M p (fnvTag (keyH k)) ((r : Int) + 1) q.tags) q.s = twTag (M q.tags) q.s ∧ putM M p (fnvTag (keyH k)) ((r : Int) + 1) q.item = M q.item := by
  intro q hq hqb hne
  refine ⟨?_, putM_oth (Spt.item_ne_tags hq hp (by rw [hqb, hb])) fun e => hne (Spt.item_inj hq hp (by rw [hqb, hb]) e)⟩
  by_cases e : q.q = p.q
  · have et : q.tags = p.tags := by unfold Spt.tags; rw [e, hqb, hb]
    rw [et, putM_tags, twTag_with hw.1 hs0 hs1 (by omega) ht.2 hq.s0 hq.s1, if_neg]
    intro es
    apply hne
    obtain ⟨x, y, z⟩ := q
    obtain ⟨x', y', z'⟩ := p
    dsimp only at *
    simp_all
  · rw [putM_oth (Spt.tags_ne hq hp (by rw [hqb, hb]) e) (fun x => Spt.item_ne_tags hp hq (by rw [hqb, hb]) x.symm)]
 refine ⟨h.b0, h.b1, ?_, fun q hq hqb => ?_, fun q hq hqb => ?_, fun q q' hq hq' hqb hqb' => ?_, fun a ha h2 => ?_⟩
 · rw [putM_oth (by omega) (by omega)]; exact h.wd
 · by_cases e : q = p
   · subst e
     refine .inr ⟨r, k, hk, putM_item hq, ?_, hin⟩
     rw [putM_tags, twTag_with hw.1 hs0 hs1 (by omega) ht.2 hs0 hs1, if_pos rfl]
   · obtain ⟨k1, k2⟩ := key q hq hqb e
     rcases h.slot q hq hqb with g | ⟨r', k', g1, g2, g3, g4⟩
     · exact .inl ⟨by rw [k1]; exact g.1, by rw [k2]; exact g.2⟩
     · exact .inr ⟨r', k', g1, by rw [k2]; exact g2, by rw [k1]; exact g3, g4⟩
 · by_cases e : q.tags = p.tags
   · rw [e, putM_tags]; exact twWith_32 hw.1 hw.2 hs0 hs1 (by omega) ht.2
   · rw [putM_oth e (fun x => Spt.item_ne_tags hp hq (by rw [hqb, hb]) x.symm)]; exact h.word q hq hqb
 · by_cases e : q = p
   · by_cases e' : q' = p
     · intro _ _; rw [e, e']
     · rw [e, putM_item hp, (key q' hq' hqb' e').2]
       intro g _
       exact absurd g.symm (hno q' hq' hqb')
   · rw [(key q hq hqb e).2]
     by_cases e' : q' = p
     · rw [e', putM_item hp]
       intro g _
       exact absurd g (hno q hq hqb)
     · rw [(key q' hq' hqb' e').2]
       exact h.inj q q' hq hq' hqb hqb'
 · rw [putM_oth (by omega) (by omega)]; exact h.oth a ha h2
end
section
open Go.RowKit
def Gos {Y : Type} (over : Y → Bool) (step : AW × Y → AW × Y) : Nat → AW × Y → AW × Y → Prop
 | 0, z, z' => z' = z
 | c + 1, z, z' => over z.2 = false ∧ Gos over step c (step z) z'
section
variable {Y : Type} {over : Y → Bool} {step : AW × Y → AW × Y}
theorem Gos.trans : ∀ {c d : Nat} {z z1 z2 : AW × Y}, Gos over step c z z1 → Gos over step d z1 z2 → Gos over step (c + d) z z2
 | 0, d, z, z1, z2, h, k => by rw [Nat.zero_add]; rw [show z1 = z from h] at k; exact k
 | c + 1, d, z, z1, z2, h, k => by rw [Nat.add_right_comm]; exact ⟨h.1, Gos.trans h.2 k⟩
theorem Gos.one {z z1 : AW × Y} (h : over z.2 = false) (e : step z = z1) : Gos over step 1 z z1 := ⟨h, e.symm⟩
theorem Gos.run : ∀ {c : Nat} {z z1 : AW × Y} {m : Nat}, Gos over step c z z1 → c ≤ m → runN over step m z = (c + (runN over step (m - c) z1).1, (runN over step (m - c) z1).2)
 | 0, z, z1, m, h, _ => by rw [show z1 = z from h, Nat.sub_zero, Nat.zero_add]
 | c + 1, z, z1, 0, h, hm => by omega
 | c + 1, z, z1, m + 1, h, hm => by
   rw [runN_on m z h.1, Gos.run h.2 (by omega), Nat.add_sub_add_right]
   dsimp only
   rw [Nat.add_right_comm]
theorem Gos.fin {c : Nat} {z z1 : AW × Y} {m : Nat} (h : Gos over step c z z1) (hm : c ≤ m) (ho : over z1.2 = true) : runN over step m z = (c, z1) := by
 rw [h.run hm, runN_over _ _ ho]; rfl
end
end
section
open Go.RowKit
abbrev Spt.is (p q : Spt) : Prop := p.b = q.b ∧ p.q = q.q ∧ p.s = q.s
theorem Spt.is_eq {p q : Spt} (h : p.is q) : p = q := by
 obtain ⟨a, b, c⟩ := p
 obtain ⟨a', b', c'⟩ := q
 obtain ⟨h1, h2, h3⟩ := h
 dsimp only at h1 h2 h3
 rw [h1, h2, h3]
theorem Spt.is_rfl (p : Spt) : p.is p := ⟨rfl, rfl, rfl⟩
theorem fnvSize_dbl {a b : Int} (a0 : 1 ≤ a) (h : a < b) (b1 : b ≤ 12) : 2 * fnvSize a ≤ fnvSize b := by
 rw [fnvSize_in a0 (by omega), fnvSize_in (by omega) b1]
 have h1 : 2 ^ (a.toNat + 1) ≤ 2 ^ b.toNat := Nat.pow_le_pow_right (by decide) (by omega)
 rw [Nat.pow_succ] at h1
 have h2 : ((2 ^ a.toNat : Nat) : Int) = (2 : Int) ^ a.toNat := by rw [Int.natCast_pow]; rfl
 have h3 : ((2 ^ b.toNat : Nat) : Int) = (2 : Int) ^ b.toNat := by rw [Int.natCast_pow]; rfl
 rw [← h2, ← h3]
 omega
theorem Spt.tags_inj {p q : Spt} (hp : p.ok) (hq : q.ok) (h : p.tags = q.tags) : p.b = q.b ∧ p.q = q.q := by
 have h1 := hp.tags.2.2
 have h2 := hq.tags.2.2
 have p0 := hp.q0
 have p1 := hp.q1
 have q0 := hq.q0
 have q1 := hq.q1
 have hb : p.b = q.b := by
  by_cases c : p.b < q.b
  · have := fnvSize_dbl hp.b0 c hq.b1; omega
  · by_cases d : q.b < p.b
    · have := fnvSize_dbl hq.b0 d hp.b1; omega
    · omega
 rw [hb] at h1
 exact ⟨hb, by omega⟩
theorem Spt.tags_8 {p : Spt} (hp : p.ok) : p.tags % 8 = 0 := by have := hp.tags.2.2; omega
theorem Spt.item_8 {p : Spt} (hp : p.ok) : p.item % 8 = 1 + p.s ∧ p.item = p.tags + 1 + p.s := by
 have h1 := hp.tags.2.2
 have h2 := hp.item.2.2
 have := hp.s0
 have := hp.s1
 omega
theorem Spt.item_tags {p q : Spt} (hp : p.ok) (hq : q.ok) : p.item ≠ q.tags := by
 have h1 := Spt.item_8 hp
 have h2 := Spt.tags_8 hq
 have := hp.s0
 have := hp.s1
 omega
theorem Spt.item_is {p q : Spt} (hp : p.ok) (hq : q.ok) (h : p.item = q.item) : p.is q := by
 have h1 := Spt.item_8 hp
 have h2 := Spt.item_8 hq
 have := hp.s0
 have := hp.s1
 have := hq.s0
 have := hq.s1
 have h3 := Spt.tags_inj hp hq (by omega)
 exact ⟨h3.1, h3.2, by omega⟩
theorem Spt.tags_of {p q : Spt} (h1 : p.b = q.b) (h2 : p.q = q.q) : p.tags = q.tags := by unfold Spt.tags; rw [h1, h2]
abbrev Tab := Spt → Int × Int
def Tab.set (T : Tab) (p : Spt) (x : Int × Int) : Tab := fun q => if q.is p then x else T q
theorem Tab.set_same (T : Tab) (p : Spt) (x : Int × Int) : T.set p x p = x := by unfold Tab.set; rw [if_pos (Spt.is_rfl p)]
theorem Tab.set_ne {T : Tab} {p q : Spt} (x : Int × Int) (h : ¬ q.is p) : T.set p x q = T q := by unfold Tab.set; rw [if_neg h]
structure Rep (M : Int → Int) (T : Tab) : Prop where
 tg : ∀ p : Spt, p.ok → twTag (M p.tags) p.s = (T p).1
 it : ∀ p : Spt, p.ok → M p.item = (T p).2
 wd : ∀ p : Spt, p.ok → 0 ≤ M p.tags ∧ M p.tags < 4294967296
theorem Rep.low {M M' : Int → Int} {T : Tab} (h : Rep M T) (e : ∀ a, 4096 ≤ a → a < 4294967296 → M' a = M a) : Rep M' T :=
 ⟨fun p hp => by rw [e _ hp.tags.1 hp.tags.2.1]; exact h.tg p hp, fun p hp => by rw [e _ hp.item.1 hp.item.2.1]; exact h.it p hp, fun p hp => by rw [e _ hp.tags.1 hp.tags.2.1]; exact h.wd p hp⟩
theorem Rep.slot {M M' : Int → Int} {T : Tab} (h : Rep M T) {p : Spt} (hp : p.ok) {tg rf : Int} (t0 : 0 ≤ tg) (t1 : tg ≤ 255) (e1 : M' p.tags = twWith (M p.tags) p.s tg) (e2 : M' p.item = rf)
 (e3 : ∀ a, 4096 ≤ a → a < 4294967296 → a ≠ p.tags → a ≠ p.item → M' a = M a) : Rep M' (T.set p (tg, rf)) := by
 have hw := h.wd p hp
 refine ⟨fun q hq => ?_, fun q hq => ?_, fun q hq => ?_⟩
 · by_cases c : q.tags = p.tags
   · have hb := Spt.tags_inj hq hp c
     rw [c, e1, twTag_with hw.1 hp.s0 hp.s1 t0 t1 hq.s0 hq.s1]
     by_cases d : q.s = p.s
     · rw [if_pos d]; unfold Tab.set; rw [if_pos ⟨hb.1, hb.2, d⟩]
     · rw [if_neg d, Tab.set_ne _ (fun x => d x.2.2), ← h.tg q hq, c]
   · rw [e3 _ hq.tags.1 hq.tags.2.1 c (fun x => Spt.item_tags hp hq x.symm), Tab.set_ne _ (fun x => c (Spt.tags_of x.1 x.2.1))]
     exact h.tg q hq
 · by_cases c : q.item = p.item
   · have := Spt.is_eq (Spt.item_is hq hp c)
     subst this
     rw [Tab.set_same, e2]
   · rw [e3 _ hq.item.1 hq.item.2.1 (Spt.item_tags hq hp) c, Tab.set_ne _ (fun x => c (by rw [Spt.is_eq x]))]
     exact h.it q hq
 · by_cases c : q.tags = p.tags
   · rw [c, e1]; exact twWith_32 hw.1 hw.2 hp.s0 hp.s1 t0 t1
   · rw [e3 _ hq.tags.1 hq.tags.2.1 c (fun x => Spt.item_tags hp hq x.symm)]; exact h.wd q hq
theorem twFree_neg {w k : Int} (h : twFree w < 0) (k0 : 0 ≤ k) (k1 : k ≤ 3) : twTag w k ≠ 0 := by
 unfold twFree at h
 have hk4 : k = 0 ∨ k = 1 ∨ k = 2 ∨ k = 3 := by omega
 intro e
 rcases hk4 with rfl | rfl | rfl | rfl
 · rw [if_pos e] at h; omega
 · repeat' split at h
   all_goals first | omega | contradiction
 · repeat' split at h
   all_goals first | omega | contradiction
 · repeat' split at h
   all_goals first | omega | contradiction
theorem twFree_pos {w : Int} (h : 0 ≤ twFree w) : twTag w (twFree w) = 0 := by
 unfold twFree at h ⊢
 by_cases c0 : twTag w 0 = 0
 · rw [if_pos c0]; exact c0
 · rw [if_neg c0] at h ⊢
   by_cases c1 : twTag w 1 = 0
   · rw [if_pos c1]; exact c1
   · rw [if_neg c1] at h ⊢
     by_cases c2 : twTag w 2 = 0
     · rw [if_pos c2]; exact c2
     · rw [if_neg c2] at h ⊢
       by_cases c3 : twTag w 3 = 0
       · rw [if_pos c3]; exact c3
       · rw [if_neg c3] at h; omega
end
section
def fdOver (z : Fdm) : Bool := z.left.isEmpty
structure Qt (s s' : AW) (c : Nat) : Prop where
 M : s'.M = s.M
 tk : s'.tk = s.tk
 ho : s'.ho = s.ho
 it : s'.it = s.it
 nt : s'.nt = s.nt
 n : s'.n = s.n + c
theorem Qt.refl (s : AW) : Qt s s 0 := ⟨rfl, rfl, rfl, rfl, rfl, (Int.add_zero _).symm⟩
theorem Qt.load (a : Int) (s : AW) : Qt s (awLoad a s) 1 := ⟨rfl, rfl, rfl, rfl, rfl, rfl⟩
theorem Qt.trans {s t u : AW} {c d : Nat} (h : Qt s t c) (k : Qt t u d) : Qt s u (c + d) := ⟨k.M.trans h.M, k.tk.trans h.tk, k.ho.trans h.ho, k.it.trans h.it, k.nt.trans h.nt, by rw [k.n, h.n]; push_cast; omega⟩
def Fl.spots (M : Int → Int) (tag : Int) : Fl → List Spt
 | .tb => []
 | .tg b q => (twHas (M (plTags b q)) tag).map fun s => ⟨b, q, s⟩
 | .im b q s => [⟨b, q, s⟩]
def Fl.w : Fl → Nat
 | .tb => 20
 | .tg _ _ => 6
 | .im _ _ _ => 1
def Fl.ok : Fl → Prop
 | .tb => False
 | _ => True
def flSpots (M : Int → Int) (tag : Int) (l : List Fl) : List Spt := l.flatMap (Fl.spots M tag)
def flW (l : List Fl) : Nat := (l.map Fl.w).sum
def flHit (it : List It) (M : Int → Int) (key : ByteArray) (p : Spt) : Bool := fdHit it (M p.item) key
theorem twHas_len (w tag : Int) : (twHas w tag).length ≤ 4 := List.length_filter_le _ _
theorem flSpots_cons (M : Int → Int) (tag : Int) (a : Fl) (l : List Fl) : flSpots M tag (a :: l) = a.spots M tag ++ flSpots M tag l := rfl
theorem flSpots_app (M : Int → Int) (tag : Int) (l m : List Fl) : flSpots M tag (l ++ m) = flSpots M tag l ++ flSpots M tag m := List.flatMap_append
theorem flSpots_im (M : Int → Int) (tag b q : Int) (l : List Int) : flSpots M tag (l.map (.im b q)) = l.map fun s => ⟨b, q, s⟩ := by
 induction l with
 | nil => rfl
 | cons a l ih => rw [List.map_cons, flSpots_cons, ih]; rfl
theorem flW_cons (a : Fl) (l : List Fl) : flW (a :: l) = a.w + flW l := by unfold flW; rw [List.map_cons, List.sum_cons]
theorem flW_app (l m : List Fl) : flW (l ++ m) = flW l + flW m := by unfold flW; rw [List.map_append, List.sum_append]
theorem flW_im (b q : Int) (l : List Int) : flW (l.map (.im b q)) = l.length := by
 induction l with
 | nil => rfl
 | cons a l ih => rw [List.map_cons, flW_cons, ih, List.length_cons]; show 1 + _ = _; omega
def fdRes (it : List It) (M : Int → Int) (key : ByteArray) (z z' : Fdm) : Option Spt → Prop
 | some p => z'.p = p ∧ z'.ref = M p.item
 | none => z'.p = z.p ∧ z'.ref = z.ref
theorem fd_go (key : ByteArray) : ∀ (n : Nat) (l : List Fl) (s : AW) (z : Fdm), flW l ≤ n → (∀ a ∈ l, a.ok) → z.left = l →
 ∃ c s' z', c ≤ flW l ∧ Gos fdOver (fdStep key) c (s, z) (s', z') ∧ z'.left = [] ∧ Qt s s' c ∧ z'.word = z.word ∧ fdRes s.it s.M key z z' ((flSpots s.M (fnvTag (kyH key)) l).find? (flHit s.it s.M key)) := by
 intro n
 induction n with
 | zero =>
   intro l s z hw hok hl
   cases l with
   | nil => exact ⟨0, s, z, Nat.zero_le _, rfl, hl, Qt.refl s, rfl, rfl, rfl⟩
   | cons a l =>
     have : 1 ≤ a.w := by
      cases a with
      | tb => exact (by decide : 1 ≤ 20)
      | tg _ _ => exact (by decide : 1 ≤ 6)
      | im _ _ _ => exact (by decide : 1 ≤ 1)
     rw [flW_cons] at hw
     omega
 | succ n ih =>
   intro l s z hw hok hl
   cases l with
   | nil => exact ⟨0, s, z, Nat.zero_le _, rfl, hl, Qt.refl s, rfl, rfl, rfl⟩
   | cons a l =>
     have hov : fdOver z = false := by unfold fdOver; rw [hl]; rfl
     have hok2 : ∀ a ∈ l, a.ok := fun a ha => hok a (List.mem_cons_of_mem _ ha)
     rw [flW_cons] at hw ⊢
     cases a with
     | tb => exact (hok .tb (List.mem_cons_self ..)).elim
     | tg b q =>
       have hw : 6 + flW l ≤ n + 1 := hw
       have hlen := twHas_len (s.M (plTags b q)) (fnvTag (kyH key))
       obtain ⟨c, s', z', h1, h2, h3, h4, h5, h6⟩ := ih ((twHas (s.M (plTags b q)) (fnvTag (kyH key))).map (.im b q) ++ l) (awLoad (plTags b q) s) ⟨(twHas (s.M (plTags b q)) (fnvTag (kyH key))).map (.im b q) ++ l, z.word, z.p, z.ref⟩
        (by rw [flW_app, flW_im]; omega) (fun a ha => by
          rcases List.mem_append.1 ha with h | h
          · obtain ⟨x, -, rfl⟩ := List.mem_map.1 h; trivial
          · exact hok2 a h) rfl
       refine ⟨1 + c, s', z', ?_, Gos.trans (Gos.one hov ?_) h2, h3, (Qt.load _ s).trans h4, h5, ?_⟩
       · rw [flW_app, flW_im] at h1
         show _ ≤ 6 + flW l
         omega
       · unfold fdStep
         dsimp only
         rw [hl]
       · have h6 : fdRes s.it s.M key z z' ((flSpots s.M (fnvTag (kyH key)) ((twHas (s.M (plTags b q)) (fnvTag (kyH key))).map (.im b q) ++ l)).find? (flHit s.it s.M key)) := by
          revert h6
          show fdRes s.it s.M key _ z' ((flSpots s.M (fnvTag (kyH key)) ((twHas (s.M (plTags b q)) (fnvTag (kyH key))).map (.im b q) ++ l)).find? (flHit s.it s.M key)) → _
          cases (flSpots s.M (fnvTag (kyH key)) ((twHas (s.M (plTags b q)) (fnvTag (kyH key))).map (.im b q) ++ l)).find? (flHit s.it s.M key) <;> exact id
         rw [flSpots_app, flSpots_im] at h6
         exact h6
     | im b q sl =>
       have hw : 1 + flW l ≤ n + 1 := hw
       have hsp : flSpots s.M (fnvTag (kyH key)) (.im b q sl :: l) = ⟨b, q, sl⟩ :: flSpots s.M (fnvTag (kyH key)) l := rfl
       rw [hsp, List.find?_cons]
       by_cases hh : fdHit s.it (s.M (plItem b q sl)) key = true
       · have hh2 : flHit s.it s.M key ⟨b, q, sl⟩ = true := hh
         rw [hh2]
         refine ⟨1, awLoad (plItem b q sl) s, ⟨[], z.word, ⟨b, q, sl⟩, s.M (plItem b q sl)⟩, ?_, Gos.one hov ?_, rfl, Qt.load _ s, rfl, rfl, rfl⟩
         · show 1 ≤ 1 + flW l; omega
         · unfold fdStep
           dsimp only
           rw [hl]
           dsimp only
           rw [if_pos hh]
       · have hh2 : flHit s.it s.M key ⟨b, q, sl⟩ = false := by
          cases h : fdHit s.it (s.M (plItem b q sl)) key with
          | true => exact absurd h hh
          | false => exact h
         rw [hh2]
         obtain ⟨c, s', z', h1, h2, h3, h4, h5, h6⟩ := ih l (awLoad (plItem b q sl) s) ⟨l, z.word, z.p, z.ref⟩ (by omega) hok2 rfl
         refine ⟨1 + c, s', z', ?_, Gos.trans (Gos.one hov ?_) h2, h3, (Qt.load _ s).trans h4, h5, ?_⟩
         · show _ ≤ 1 + flW l; omega
         · unfold fdStep
           dsimp only
           rw [hl]
           dsimp only
           rw [if_neg hh]
         · revert h6
           show fdRes s.it s.M key _ z' ((flSpots s.M (fnvTag (kyH key)) l).find? (flHit s.it s.M key)) → _
           dsimp only
           cases (flSpots s.M (fnvTag (kyH key)) l).find? (flHit s.it s.M key) <;> exact id
def fdSpots (key : ByteArray) (M : Int → Int) : List Spt := flSpots M (fnvTag (kyH key)) ((plPlaces (kyH key) (M 2)).map fun p => .tg p.1 p.2)
theorem fd_run (key : ByteArray) (s : AW) : ∃ c s' z', c ≤ 1 + 6 * (plPlaces (kyH key) (s.M 2)).length ∧ Gos fdOver (fdStep key) c (s, fdNew) (s', z') ∧ z'.left = [] ∧ Qt s s' c ∧ z'.word = s.M 2 ∧ fdRes s.it s.M key fdNew z' ((fdSpots key s.M).find? (flHit s.it s.M key)) := by
 obtain ⟨c, s', z', h1, h2, h3, h4, h5, h6⟩ := fd_go key _ ((plPlaces (kyH key) (s.M 2)).map fun p => .tg p.1 p.2) (awLoad 2 s) ⟨(plPlaces (kyH key) (s.M 2)).map fun p => .tg p.1 p.2, s.M 2, sp20, 0⟩ (Nat.le_refl _)
  (fun a ha => by obtain ⟨x, -, rfl⟩ := List.mem_map.1 ha; trivial) rfl
 refine ⟨1 + c, s', z', ?_, Gos.trans (Gos.one rfl rfl) h2, h3, (Qt.load 2 s).trans h4, h5, ?_⟩
 · have : ∀ l : List (Int × Int), flW (l.map fun p => .tg p.1 p.2) = 6 * l.length := by
    intro l
    induction l with
    | nil => rfl
    | cons a l ih => rw [List.map_cons, flW_cons, ih, List.length_cons]; show 6 + _ = _; omega
   rw [this] at h1
   omega
 · revert h6
   show fdRes s.it s.M key _ z' ((fdSpots key s.M).find? (flHit s.it s.M key)) → _
   cases (fdSpots key s.M).find? (flHit s.it s.M key) <;> exact id
end
section
open Go.RowKit Go.Shelf
section
variable {w : World} {O : Om} {B : Wb} {f : Cf} {s : AW} {k : Nat}
theorem c_Slot (p : Spt) (hP : PW w O B f s) (hp : p.ok) (hhi : ∀ j, O j ≠ 0 → j < w.heap.size) :
 Calls Tryz.prog 84 #[.pointer (some ⟨B.p, 0, none⟩), .agg #[.int .i64 p.b, .int .i64 p.q, .int .i64 p.s]] w fun e w' => e = .returned (.tuple #[.int .i64 (twTag (s.M p.tags) p.s), .int .u64 (s.M p.item)]) ∧ Below w.heap.size w w' := by
 have hit := hp.item
 have htg := hp.tags
 have hq2 := hp.q2
 have hs0 := hp.s0
 have hs1 := hp.s1
 have HI := Lib.hid (fun W => c_Item p.b p.q p.s W (by have := hp.b0; omega) (by have := hp.b1; omega) (by have := hp.q0; omega) (by omega) (by omega) (by omega))
 have HT := Lib.hid (fun W => c_Tags p.b p.q W (by have := hp.b0; omega) (by have := hp.b1; omega) (by have := hp.q0; omega) (by omega))
 have HPI := Lib.hid (fun (W : World) (h : Below w.heap.size w W) => c_Peek p.item (hP.below hhi h).ce (by omega) (by omega))
 have HPT := Lib.hid (fun (W : World) (h : Below w.heap.size w W) => c_Peek p.tags (hP.below hhi h).ce (by omega) (by omega))
 have hbt := hP.bd p.tags
 have HTG := Lib.hid (fun W => c_TwTag (s.M p.tags) p.s W hbt.1 hbt.2 hs0 hs1)
 have hia2 : plItem p.b p.q p.s = p.item := rfl
 have hta2 : plTags p.b p.q = p.tags := rfl
 rw [hia2] at HI
 rw [hta2] at HT
 obtain ⟨ia, hia⟩ : ∃ ia, ia = p.item := ⟨_, rfl⟩
 obtain ⟨ta, hta⟩ : ∃ ta, ta = p.tags := ⟨_, rfl⟩
 rw [← hia] at HI HPI
 rw [← hta] at HT HPT HTG
 rw [← hia, ← hta]
 obtain ⟨b, hb⟩ : ∃ z, z = p.b := ⟨_, rfl⟩
 obtain ⟨q, hq⟩ : ∃ z, z = p.q := ⟨_, rfl⟩
 obtain ⟨sl, hs⟩ : ∃ z, z = p.s := ⟨_, rfl⟩
 rw [← hb, ← hq, ← hs] at HI
 rw [← hb, ← hq] at HT
 rw [← hs] at HTG
 rw [← hb, ← hq, ← hs]
 have p0 := hP.wo.c0
 have pl := hP.wo.lt
 obtain ⟨M, hM⟩ : ∃ M, M = s.M := ⟨_, rfl⟩
 rw [← hM] at HPT HTG HPI ⊢
 obtain ⟨tt, htt⟩ : ∃ z, z = twTag (M ta) sl := ⟨_, rfl⟩
 rw [← htt] at HTG ⊢
 clear hP hhi hp hit htg hq2 hs0 hs1 hbt hia2 hta2 hia hta hb hq hs hM htt
 go_enter Tryz.func84, Tryz.ntmps84
 go_wp2_with fail
 obtain ⟨W, hW⟩ : ∃ W, W = w.alloc (.cells #[.int .i64 b, .int .i64 q, .int .i64 sl] 75) := ⟨_, rfl⟩
 have hB : Below w.heap.size w W := by rw [hW]; exact (Below.refl _ _).alloc (Nat.le_refl _) _
 have y0 : W.cell? ⟨w.heap.size, 0, none⟩ = some (.int .i64 b) := by rw [hW]; simp
 have y1 : W.cell? ⟨w.heap.size, 1, none⟩ = some (.int .i64 q) := by rw [hW]; simp
 have y2 : W.cell? ⟨w.heap.size, 2, none⟩ = some (.int .i64 sl) := by rw [hW]; simp
 have hl : w.heap.size < W.heap.size := by rw [hW]; simp
 have p1 := (hB.cell (p := ⟨B.p, 0, none⟩) pl).trans p0
 have pl1 : B.p < W.heap.size := Nat.lt_of_lt_of_le pl hB.size
 have HPX : Hid (∀ x, x = ta ∨ x = ia → ∀ e : Later W, Calls Tryz.prog 12 #[.pointer (some ⟨B.c, 0, none⟩), .int .u64 x] (via W e) fun e_1 w' => e_1 = .returned (.int .u64 (M x)) ∧ via W e = w') := Lib.hid (by
  rintro x (rfl | rfl) e
  · exact HPT.out (via W e) (hB.trans ((via_below W e).mono hB.size))
  · exact HPI.out (via W e) (hB.trans ((via_below W e).mono hB.size)))
 have HB := Lib.hid hB
 rw [← hW]
 clear hW hB p0 pl HPI HPT
 refine wp_region_via (by kernel_rfl) (by kernel_rfl) ?_
 repeat (go_big_quiet_step ((first
  | (go_at_call 153; exact viaB (HT.out _))
  | (go_at_call 154; exact viaB (HI.out _))
  | (go_at_call 152; exact viaB (HTG.out _))
  | (go_at_call 12; exact viaS (HPX.out _ (by first | exact .inl rfl | exact .inr rfl) _)))))
 refine wpQuiet_nil ?_
 rintro _ ⟨e, rfl⟩
 go_wp2_with fail
 exact bodyPost_ret (v := .tuple #[.int .i64 tt, .int .u64 (M ia)]) (by simp [results, Tryz.results84, go_sem]) rfl ⟨rfl, HB.out.trans ((via_below W e).mono HB.out.size)⟩
end
end
section
open Go.RowKit Go.Shelf
theorem plOld_one {b : Int} (h0 : 1 ≤ b) (h1 : b ≤ 12) : plOld b = b := by unfold plOld; rw [if_pos (by omega)]; omega
theorem plNow_one {b : Int} (h0 : 1 ≤ b) (h1 : b ≤ 12) : plNow b = 0 := by unfold plNow; rw [plOld_one h0 h1, if_neg (by omega)]
theorem plPlaces_one {h b : Int} (h0 : 1 ≤ b) (h1 : b ≤ 12) (p : Int × Int) : p ∈ plPlaces h b ↔ p ∈ plPair h b := by
 unfold plPlaces
 rw [plNow_one h0 h1, plOld_one h0 h1, plOnce_mem, plPair_out (b := 0) (by omega), List.append_nil]
end
section
structure Stand1 (b : Int) (it : List It) (T : Tab) (k : ByteArray) (p : Spt) (r : Int) : Prop where
 ok : p.ok
 tb : p.b = b
 rf : (T p).2 = r
 hit : fdHit it r k = true
structure Sw (b : Int) (s : AW) (T : Tab) : Prop where
 b0 : 1 ≤ b
 b1 : b ≤ 11
 wd : s.M 2 = b
 rep : Rep s.M T
 sl : ∀ p : Spt, p.ok → p.b = b → T p = (0, 0) ∨ ∃ (k : ByteArray) (r : Int), Stand1 b s.it T k p r ∧ (T p).1 = fnvTag (kyH k) ∧ (b, p.q) ∈ plPair (kyH k) b
 one : ∀ (k : ByteArray) (p q : Spt) (r u : Int), Stand1 b s.it T k p r → Stand1 b s.it T k q u → p = q
theorem kyH_bd (k : ByteArray) : 0 ≤ kyH k ∧ kyH k < 18446744073709551616 := fnvHash_bd _
theorem fdHit_key {it : List It} {r : Int} {k l : ByteArray} (h : fdHit it r k = true) (g : fdHit it r l = true) : k = l := by
 unfold fdHit at h g
 simp only [Bool.and_eq_true, decide_eq_true_eq] at h g
 cases e : it[(r - 1).toNat]? with
 | none => rw [e] at h; exact absurd h.2 Bool.false_ne_true
 | some x =>
   rw [e] at h g
   simp only [decide_eq_true_eq] at h g
   exact h.2.symm.trans g.2
theorem fdHit_pos {it : List It} {r : Int} {k : ByteArray} (h : fdHit it r k = true) : 1 ≤ r := by
 unfold fdHit at h
 simp only [Bool.and_eq_true, decide_eq_true_eq] at h
 exact h.1
theorem twHas_mem (w tag s : Int) : s ∈ twHas w tag ↔ (0 ≤ s ∧ s ≤ 3) ∧ twTag w s = tag := by
 unfold twHas
 rw [List.mem_filter]
 simp only [List.mem_cons, List.not_mem_nil, or_false, decide_eq_true_eq]
 constructor
 · rintro ⟨h, e⟩; exact ⟨by omega, e⟩
 · rintro ⟨h, e⟩; exact ⟨by omega, e⟩
theorem fdSpots_mem {b : Int} {s : AW} {T : Tab} (S : Sw b s T) (k : ByteArray) (p : Spt) : p ∈ fdSpots k s.M ↔ p.ok ∧ p.b = b ∧ (b, p.q) ∈ plPair (kyH k) b ∧ (T p).1 = fnvTag (kyH k) := by
 have hb0 := S.b0
 have hb1 := S.b1
 unfold fdSpots flSpots
 rw [S.wd, List.mem_flatMap]
 constructor
 · rintro ⟨a, ha, hp⟩
   obtain ⟨⟨pb, pq⟩, hx, rfl⟩ := List.mem_map.1 ha
   have hbd := plPlaces_bd (kyH_bd k).1 (kyH_bd k).2 hx
   rw [plPlaces_one hb0 (by omega)] at hx
   obtain ⟨sl, hs, rfl⟩ := List.mem_map.1 hp
   rw [twHas_mem] at hs
   have hpb : pb = b := by
    rw [plPair_in hb0 (by omega)] at hx
    simp only [List.mem_cons, List.not_mem_nil, or_false, Prod.mk.injEq] at hx
    omega
   subst hpb
   have hok : (⟨pb, pq, sl⟩ : Spt).ok := ⟨hbd.1, hbd.2.1, hbd.2.2.1, hbd.2.2.2, hs.1.1, hs.1.2⟩
   exact ⟨hok, rfl, hx, (S.rep.tg _ hok).symm.trans hs.2⟩
 · rintro ⟨hok, hpb, hx, ht⟩
   refine ⟨.tg b p.q, List.mem_map.2 ⟨(b, p.q), (plPlaces_one hb0 (by omega) _).2 hx, rfl⟩, List.mem_map.2 ⟨p.s, ?_, ?_⟩⟩
   · rw [twHas_mem]
     refine ⟨⟨hok.s0, hok.s1⟩, ?_⟩
     have := S.rep.tg p hok
     unfold Spt.tags at this
     rw [← hpb, this, ht]
   · obtain ⟨x, y, z⟩ := p
     dsimp only at hpb ⊢
     rw [hpb]
theorem Stand1.at {b : Int} {s : AW} {T : Tab} (S : Sw b s T) {k : ByteArray} {p : Spt} {r : Int} (h : Stand1 b s.it T k p r) : (T p).1 = fnvTag (kyH k) ∧ (b, p.q) ∈ plPair (kyH k) b := by
 rcases S.sl p h.ok h.tb with e | ⟨l, u, g, g1, g2⟩
 · have h1 := h.rf
   rw [e] at h1
   have := fdHit_pos h.hit
   have h1 : (0 : Int) = r := h1
   omega
 · have : k = l := fdHit_key h.hit (by rw [← h.rf, g.rf]; exact g.hit)
   rw [this]
   exact ⟨g1, g2⟩
theorem Sw.some {b : Int} {s : AW} {T : Tab} (S : Sw b s T) {k : ByteArray} {p : Spt} {r : Int} (h : Stand1 b s.it T k p r) : (fdSpots k s.M).find? (flHit s.it s.M k) = some p := by
 have hp : p ∈ fdSpots k s.M := (fdSpots_mem S k p).2 ⟨h.ok, h.tb, (h.at S).2, (h.at S).1⟩
 have hh : flHit s.it s.M k p = true := by unfold flHit; rw [S.rep.it p h.ok, h.rf]; exact h.hit
 cases e : (fdSpots k s.M).find? (flHit s.it s.M k) with
 | none => exact absurd hh (by have := List.find?_eq_none.1 e p hp; exact this)
 | some q =>
   have hq := List.mem_of_find?_eq_some e
   have hg := List.find?_some e
   obtain ⟨q1, q2, -, -⟩ := (fdSpots_mem S k q).1 hq
   unfold flHit at hg
   rw [S.rep.it q q1] at hg
   rw [S.one k q p _ _ ⟨q1, q2, rfl, hg⟩ h]
theorem Sw.none {b : Int} {s : AW} {T : Tab} (S : Sw b s T) {k : ByteArray} (h : ∀ p r, ¬ Stand1 b s.it T k p r) : (fdSpots k s.M).find? (flHit s.it s.M k) = none := by
 rw [List.find?_eq_none]
 intro q hq hg
 obtain ⟨q1, q2, -, -⟩ := (fdSpots_mem S k q).1 hq
 unfold flHit at hg
 rw [S.rep.it q q1] at hg
 exact h q _ ⟨q1, q2, rfl, hg⟩
end
section
theorem Sw.same {b : Int} {s s' : AW} {T : Tab} (S : Sw b s T) (e2 : s'.M 2 = s.M 2) (e : ∀ a, 4096 ≤ a → a < 4294967296 → s'.M a = s.M a) (hi : s'.it = s.it) : Sw b s' T :=
 ⟨S.b0, S.b1, e2.trans S.wd, S.rep.low e, by rw [hi]; exact S.sl, by rw [hi]; exact S.one⟩
def stFound (c : Clm) (z : Stm) (f : Fdm) : Stm := if 0 < f.ref then { z with fd := f, ln := 4, p := f.p, ref := f.ref, ml := stVer f.p } else { z with fd := f, ln := if c.verb = 5 ∨ c.verb = 6 then 10 else 11 }
theorem stStep_3 (t : Nat) (c : Clm) (mo : Int) (s : AW) (z : Stm) (h : z.ln = 3) : stStep t c mo (s, z) = ((fdStep c.key (s, z.fd)).1, if (fdStep c.key (s, z.fd)).2.left = [] then stFound c z (fdStep c.key (s, z.fd)).2 else { z with fd := (fdStep c.key (s, z.fd)).2 }) := by
 obtain ⟨ln, tk, fd, ml, rm, pu, p, ref, id, an, nu, ep, pt⟩ := z
 cases h
 unfold stStep
 dsimp only
 cases e : (fdStep c.key (s, fd)).2.left with
 | nil => rw [if_pos rfl]; rfl
 | cons a l => rw [if_neg (List.cons_ne_nil a l)]; rfl
theorem fd_lift (t : Nat) (c : Clm) (mo : Int) : ∀ (n : Nat) (s s' : AW) (z : Stm) (f' : Fdm), z.ln = 3 → n ≠ 0 → Gos fdOver (fdStep c.key) n (s, z.fd) (s', f') → f'.left = [] →
 ∃ z', Gos stOver (stStep t c mo) n (s, z) (s', z') ∧ z' = stFound c { z with fd := f' } f' := by
 intro n
 induction n with
 | zero => intro s s' z f' _ h; exact absurd rfl h
 | succ n ih =>
   intro s s' z f' hl _ hg hf
   obtain ⟨h1, h2⟩ := hg
   have hov : stOver z = false := by unfold stOver; rw [hl]; rfl
   have hst := stStep_3 t c mo s z hl
   cases n with
   | zero =>
     have h2 : (s', f') = fdStep c.key (s, z.fd) := h2
     rw [← h2] at hst
     dsimp only at hst
     rw [if_pos hf] at hst
     refine ⟨_, Gos.one hov hst, ?_⟩
     unfold stFound
     split <;> rfl
   | succ n =>
     have hne : ¬ (fdStep c.key (s, z.fd)).2.left = [] := by
      have h3 : fdOver (fdStep c.key (s, z.fd)).2 = false := h2.1
      intro e
      unfold fdOver at h3
      rw [e] at h3
      exact absurd h3 (by decide)
     rw [if_neg hne] at hst
     obtain ⟨z', g1, g2⟩ := ih (fdStep c.key (s, z.fd)).1 s' { z with fd := (fdStep c.key (s, z.fd)).2 } f' hl (by omega) h2 hf
     refine ⟨z', ?_, g2⟩
     have := Gos.trans (Gos.one hov hst) g1
     rw [Nat.add_comm] at this
     exact this
structure St3 (t : Nat) (s s3 : AW) : Prop where
 M : s3.M = upd s.M 0 ((s.M 0 + 1) % 18446744073709551616)
 it : s3.it = s.it
 nt : s3.nt = s.nt
 ho : s3.ho = t
 tk : s3.tk = updN (updN s.tk t ((s.M 0 + 1) % 18446744073709551616)) t 0
 n : s3.n = s.n + 3
theorem st_begin (t : Nat) (c : Clm) (mo : Int) (s : AW) (h : s.M 0 = s.M 1) : ∃ s3 tk3, St3 t s s3 ∧ Gos stOver (stStep t c mo) 3 (s, stNew) (s3, { stZ with ln := 3, tk := tk3 }) := by
 refine ⟨awLoad 2 (awServed t (awLoad 1 (awDraw t s))), ⟨0, s.M 0, true⟩, ⟨rfl, rfl, rfl, rfl, rfl, ?_⟩, ?_⟩
 · show s.n + 1 + 1 + 1 = s.n + 3; omega
 · have e1 : stStep t c mo (s, stNew) = (awDraw t s, { stZ with ln := 1, tk := ⟨2, s.M 0, true⟩ }) := rfl
   have e2 : stStep t c mo (awDraw t s, { stZ with ln := 1, tk := ⟨2, s.M 0, true⟩ }) = (awServed t (awLoad 1 (awDraw t s)), { stZ with ln := 2, tk := ⟨0, s.M 0, true⟩ }) := by
    have hm : (awDraw t s).M 1 = s.M 0 := by show upd s.M 0 ((s.M 0 + 1) % 18446744073709551616) 1 = _; rw [upd_other _ (by decide), h]
    have hk : tkStep t (awDraw t s) ⟨2, s.M 0, true⟩ = (awServed t (awLoad 1 (awDraw t s)), ⟨0, s.M 0, true⟩) := by
     unfold tkStep
     rw [if_neg (show ¬ (2 : Nat) = 1 by decide), if_pos rfl]
     rw [if_pos (by rw [hm]; exact beq_self_eq_true _)]
    show ((tkStep t (awDraw t s) ⟨2, s.M 0, true⟩).1, _) = _
    rw [hk]
    rfl
   exact ⟨rfl, by rw [e1]; exact ⟨rfl, by rw [e2]; exact ⟨rfl, rfl⟩⟩⟩
end
section
section
variable {t : Nat} {c : Clm} {mo : Int} {s : AW} {tk : Tkm} {fd : Fdm} {rm : Rmm} {pu : Otm} {p : Spt} {ref id an nu ep pt : Int} {m : List Int}
def awMark (p : Spt) (s : AW) : AW := awAdd (plVersion p.b p.q) 1 s
def stId (s : AW) : Int := (s.M 7 + 1) % 18446744073709551616
theorem st_not {k : Int} (h : stDecide c (itAt (awMark p s).it ref) ((awMark p s).M 8) = some k) :
 Gos stOver (stStep t c mo) 4 (s, ⟨4, tk, fd, stVer p, rm, pu, p, ref, id, an, nu, ep, pt⟩) (awGive (awMark p (awLoad 8 (awMark p s))), ⟨0, tk, fd, [], rm, pu, p, ref, id, k, 0, (awMark p s).M 8, (awMark p s).n + 1⟩) := by
 refine ⟨rfl, rfl, ?_⟩
 show Gos stOver (stStep t c mo) 2 (stStep t c mo (awMark p s, ⟨5, tk, fd, [], rm, pu, p, ref, id, an, nu, ep, pt⟩)) _
 have e : stStep t c mo (awMark p s, ⟨5, tk, fd, [], rm, pu, p, ref, id, an, nu, ep, pt⟩) = (awLoad 8 (awMark p s), ⟨8, tk, fd, stVer p, rm, pu, p, ref, id, k, 0, (awMark p s).M 8, (awMark p s).n + 1⟩) := by
  show (awLoad 8 (awMark p s), match stDecide c (itAt (awMark p s).it ref) ((awMark p s).M 8) with
   | some k => (⟨8, tk, fd, stVer p, rm, pu, p, ref, id, k, 0, (awMark p s).M 8, (awMark p s).n + 1⟩ : Stm)
   | none => ⟨6, tk, fd, [], rm, pu, p, ref, id, an, nu, (awMark p s).M 8, (awMark p s).n + 1⟩) = _
  rw [h]
 rw [e]
 exact ⟨rfl, rfl, rfl⟩
def awRepl (c : Clm) (p : Spt) (s : AW) : AW := awStore p.item (s.it.length + 1) (awItem (stIt c (stId s) (s.M 8)) (awAdd 7 1 (awLoad 8 s)))
theorem st_repl (h : stDecide c (itAt (awMark p s).it ref) ((awMark p s).M 8) = none) :
 Gos stOver (stStep t c mo) 6 (s, ⟨4, tk, fd, stVer p, rm, pu, p, ref, id, an, nu, ep, pt⟩) (awGive (awMark p (awRepl c p (awMark p s))), ⟨0, tk, fd, [], rm, pu, p, s.it.length + 1, stId (awMark p s), 1, stId (awMark p s), (awMark p s).M 8, (awMark p s).n + 1⟩) := by
 refine ⟨rfl, rfl, ?_⟩
 show Gos stOver (stStep t c mo) 4 (stStep t c mo (awMark p s, ⟨5, tk, fd, [], rm, pu, p, ref, id, an, nu, ep, pt⟩)) _
 have e : stStep t c mo (awMark p s, ⟨5, tk, fd, [], rm, pu, p, ref, id, an, nu, ep, pt⟩) = (awLoad 8 (awMark p s), ⟨6, tk, fd, [], rm, pu, p, ref, id, an, nu, (awMark p s).M 8, (awMark p s).n + 1⟩) := by
  show (awLoad 8 (awMark p s), match stDecide c (itAt (awMark p s).it ref) ((awMark p s).M 8) with
   | some k => (⟨8, tk, fd, stVer p, rm, pu, p, ref, id, k, 0, (awMark p s).M 8, (awMark p s).n + 1⟩ : Stm)
   | none => ⟨6, tk, fd, [], rm, pu, p, ref, id, an, nu, (awMark p s).M 8, (awMark p s).n + 1⟩) = _
  rw [h]
 rw [e]
 exact ⟨rfl, rfl, rfl, rfl, rfl⟩
def awPut (p : Spt) (tag ref : Int) (s : AW) : AW := awStore p.tags (twWith ((awStore p.item ref s).M p.tags) p.s tag) (awLoad p.tags (awStore p.item ref s))
def awNew (c : Clm) (p : Spt) (s : AW) : AW := awAdd 6 1 (awPut p (fnvTag (kyH c.key)) (s.it.length + 1) (awItem (stIt c (stId s) (s.M 8)) (awAdd 7 1 (awLoad 8 s))))
theorem st_put3 {v : Int} : ∃ w, Gos stOver (stStep t c mo) 3 (s, ⟨17, tk, fd, m, rm, ⟨0, v⟩, p, ref, id, an, nu, ep, pt⟩) (awPut p (fnvTag (kyH c.key)) ref s, ⟨18, tk, fd, m, rm, ⟨3, w⟩, p, ref, id, an, nu, ep, pt⟩) := by
 refine ⟨(awStore p.item ref s).M p.tags, ?_⟩
 have e1 : stStep t c mo (s, ⟨17, tk, fd, m, rm, ⟨0, v⟩, p, ref, id, an, nu, ep, pt⟩) = (awStore p.item ref s, ⟨17, tk, fd, m, rm, ⟨1, v⟩, p, ref, id, an, nu, ep, pt⟩) := rfl
 have e2 : stStep t c mo (awStore p.item ref s, ⟨17, tk, fd, m, rm, ⟨1, v⟩, p, ref, id, an, nu, ep, pt⟩) = (awLoad p.tags (awStore p.item ref s), ⟨17, tk, fd, m, rm, ⟨2, (awStore p.item ref s).M p.tags⟩, p, ref, id, an, nu, ep, pt⟩) := rfl
 refine (Gos.one rfl e1).trans ((Gos.one rfl e2).trans (Gos.one rfl ?_))
 rfl
theorem st_fin : Gos stOver (stStep t c mo) 3 (s, ⟨18, tk, fd, m, rm, pu, p, ref, id, an, nu, ep, pt⟩) (awGive (awMark p (awAdd 6 1 s)), ⟨0, tk, fd, [], rm, pu, p, ref, id, 1, id, ep, pt⟩) := ⟨rfl, rfl, rfl, rfl⟩
theorem st_in : ∃ pu', Gos stOver (stStep t c mo) 8 (s, ⟨15, tk, fd, m, rm, pu, p, ref, id, an, nu, ep, pt⟩) (awGive (awMark p (awNew c p s)), ⟨0, tk, fd, [], rm, pu', p, s.it.length + 1, stId s, 1, stId s, s.M 8, s.n + 1⟩) := by
 have e1 : stStep t c mo (s, ⟨15, tk, fd, m, rm, pu, p, ref, id, an, nu, ep, pt⟩) = (awLoad 8 s, ⟨16, tk, fd, m, rm, pu, p, ref, id, an, nu, s.M 8, s.n + 1⟩) := rfl
 have e2 : stStep t c mo (awLoad 8 s, ⟨16, tk, fd, m, rm, pu, p, ref, id, an, nu, s.M 8, s.n + 1⟩) = (awItem (stIt c (stId s) (s.M 8)) (awAdd 7 1 (awLoad 8 s)), ⟨17, tk, fd, m, rm, ⟨0, 0⟩, p, s.it.length + 1, stId s, an, nu, s.M 8, s.n + 1⟩) := rfl
 obtain ⟨w, h⟩ := st_put3 (t := t) (c := c) (mo := mo) (s := awItem (stIt c (stId s) (s.M 8)) (awAdd 7 1 (awLoad 8 s))) (tk := tk) (fd := fd) (rm := rm) (p := p) (ref := s.it.length + 1) (id := stId s) (an := an) (nu := nu) (ep := s.M 8) (pt := s.n + 1) (m := m) (v := 0)
 exact ⟨⟨3, w⟩, (Gos.one rfl e1).trans ((Gos.one rfl e2).trans (h.trans st_fin))⟩
def awLooks (b q : Int) (s : AW) : AW := awLoad (plTags b q) (awLoad 2 (awLoad 6 s))
theorem st_new {b : Int} (hb0 : 1 ≤ b) (hb1 : b ≤ 12) (hw : s.M 2 = b) (hf : 0 ≤ twFree (s.M (plTags b (fnvBucket (kyH c.key) b)))) (hp : p = ⟨b, fnvBucket (kyH c.key) b, twFree (s.M (plTags b (fnvBucket (kyH c.key) b)))⟩) {p0 : Spt} :
 ∃ rm' pu', Gos stOver (stStep t c mo) 12 (s, ⟨11, tk, fd, m, rm, pu, p0, ref, id, an, nu, ep, pt⟩)
  (awGive (awMark p (awNew c p (awMark p (awLooks b (fnvBucket (kyH c.key) b) s)))), ⟨0, tk, fd, [], rm', pu', p, s.it.length + 1, stId (awMark p (awLooks b (fnvBucket (kyH c.key) b) s)), 1, stId (awMark p (awLooks b (fnvBucket (kyH c.key) b) s)), (awMark p (awLooks b (fnvBucket (kyH c.key) b) s)).M 8, (awMark p (awLooks b (fnvBucket (kyH c.key) b) s)).n + 1⟩) := by
 have hr : rmNew (plOld ((awLoad 6 s).M 2)) (kyH c.key) = ⟨1, b, fnvBucket (kyH c.key) b, fnvOther (fnvBucket (kyH c.key) b) (fnvTag (kyH c.key)) b, wy0, ho0, sp20, false⟩ := by
  show rmNew (plOld (s.M 2)) _ = _
  rw [hw, plOld_one hb0 hb1]
  unfold rmNew
  rw [if_pos ⟨hb0, hb1⟩]
 have hs : rmStep mo (awLoad 2 (awLoad 6 s), ⟨1, b, fnvBucket (kyH c.key) b, fnvOther (fnvBucket (kyH c.key) b) (fnvTag (kyH c.key)) b, wy0, ho0, sp20, false⟩) = (awLooks b (fnvBucket (kyH c.key) b) s, rmIn ⟨1, b, fnvBucket (kyH c.key) b, fnvOther (fnvBucket (kyH c.key) b) (fnvTag (kyH c.key)) b, wy0, ho0, sp20, false⟩ p) := by
  unfold rmStep rmTg
  dsimp only
  rw [if_pos rfl]
  show (_, if 0 ≤ twFree (s.M (plTags b (fnvBucket (kyH c.key) b))) then rmIn _ ⟨b, _, twFree (s.M (plTags b (fnvBucket (kyH c.key) b)))⟩ else _) = _
  rw [if_pos hf, ← hp]
  rfl
 obtain ⟨pu', hin⟩ := st_in (t := t) (c := c) (mo := mo) (s := awMark p (awLooks b (fnvBucket (kyH c.key) b) s)) (tk := tk) (fd := fd) (rm := rmIn ⟨1, b, fnvBucket (kyH c.key) b, fnvOther (fnvBucket (kyH c.key) b) (fnvTag (kyH c.key)) b, wy0, ho0, sp20, false⟩ p) (pu := pu) (p := p) (ref := ref) (id := id) (an := an) (nu := nu) (ep := ep) (pt := pt) (m := [])
 refine ⟨rmIn ⟨1, b, fnvBucket (kyH c.key) b, fnvOther (fnvBucket (kyH c.key) b) (fnvTag (kyH c.key)) b, wy0, ho0, sp20, false⟩ p, pu', ?_⟩
 refine Gos.trans (c := 4) (d := 8) ⟨rfl, rfl, ?_⟩ hin
 show Gos stOver (stStep t c mo) 2 (awLoad 2 (awLoad 6 s), ⟨13, tk, fd, m, rmNew (plOld ((awLoad 6 s).M 2)) (kyH c.key), pu, p0, ref, id, an, nu, ep, pt⟩) _
 rw [hr]
 refine ⟨rfl, ?_⟩
 have e : stStep t c mo (awLoad 2 (awLoad 6 s), ⟨13, tk, fd, m, ⟨1, b, fnvBucket (kyH c.key) b, fnvOther (fnvBucket (kyH c.key) b) (fnvTag (kyH c.key)) b, wy0, ho0, sp20, false⟩, pu, p0, ref, id, an, nu, ep, pt⟩) = (awLooks b (fnvBucket (kyH c.key) b) s, ⟨14, tk, fd, stVer p, rmIn ⟨1, b, fnvBucket (kyH c.key) b, fnvOther (fnvBucket (kyH c.key) b) (fnvTag (kyH c.key)) b, wy0, ho0, sp20, false⟩ p, pu, p, ref, id, an, nu, ep, pt⟩) := by
  show (let y := rmStep mo (awLoad 2 (awLoad 6 s), ⟨1, b, fnvBucket (kyH c.key) b, fnvOther (fnvBucket (kyH c.key) b) (fnvTag (kyH c.key)) b, wy0, ho0, sp20, false⟩); (y.1, if y.2.ln = 0 then (⟨14, tk, fd, stVer y.2.p, y.2, pu, y.2.p, ref, id, an, nu, ep, pt⟩ : Stm) else ⟨13, tk, fd, m, y.2, pu, p0, ref, id, an, nu, ep, pt⟩)) = _
  rw [hs]
  rfl
 rw [e]
 exact ⟨rfl, rfl⟩
end
end
section
structure St4 (t : Nat) (s s4 : AW) : Prop where
 M : s4.M = upd s.M 0 ((s.M 0 + 1) % 18446744073709551616)
 it : s4.it = s.it
 nt : s4.nt = s.nt
 ho : s4.ho = t
 tk : s4.tk = updN (updN s.tk t ((s.M 0 + 1) % 18446744073709551616)) t 0
 n0 : s.n ≤ s4.n
 n1 : s4.n ≤ s.n + 30
theorem Sw.st3 {b : Int} {s s3 : AW} {T : Tab} {t : Nat} (S : Sw b s T) (h : St3 t s s3) : Sw b s3 T :=
 S.same (by rw [h.M, upd_other _ (by decide)]) (fun a h1 _ => by rw [h.M, upd_other _ (by omega)]) h.it
theorem Sw.st4 {b : Int} {s s3 : AW} {T : Tab} {t : Nat} (S : Sw b s T) (h : St4 t s s3) : Sw b s3 T :=
 S.same (by rw [h.M, upd_other _ (by decide)]) (fun a h1 _ => by rw [h.M, upd_other _ (by omega)]) h.it
theorem st_find {b : Int} {s : AW} {T : Tab} (S : Sw b s T) (t : Nat) (c : Clm) (mo : Int) (h : s.M 0 = s.M 1) : ∃ n s4 tk f, n ≤ 30 ∧ St4 t s s4 ∧ fdRes s.it s4.M c.key fdNew f ((fdSpots c.key s4.M).find? (flHit s.it s4.M c.key)) ∧
 Gos stOver (stStep t c mo) n (s, stNew) (s4, stFound c { stZ with ln := 3, tk := tk, fd := f } f) := by
 obtain ⟨s3, tk3, h3, g3⟩ := st_begin t c mo s h
 obtain ⟨n, s4, f, f1, f2, f3, f4, f5, f6⟩ := fd_run c.key s3
 have hn0 : n ≠ 0 := by
  intro e
  rw [e] at f2
  have f2 : (s4, f) = (s3, fdNew) := f2.symm ▸ rfl
  have : f = fdNew := congrArg Prod.snd f2
  rw [this] at f3
  exact absurd f3 (List.cons_ne_nil _ _)
 obtain ⟨z', g4, e4⟩ := fd_lift t c mo n s3 s4 { stZ with ln := 3, tk := tk3 } f rfl hn0 f2 f3
 have hle := plPlaces_le (kyH c.key) (s3.M 2)
 refine ⟨3 + n, s4, tk3, f, by omega, ⟨f4.M.trans h3.M, f4.it.trans h3.it, f4.nt.trans h3.nt, f4.ho.trans h3.ho, f4.tk.trans h3.tk, ?_, ?_⟩, ?_, ?_⟩
 · rw [f4.n, h3.n]; omega
 · rw [f4.n, h3.n]; omega
 · rw [h3.it, ← f4.M] at f6
   exact f6
 · rw [← e4]
   exact g3.trans g4
theorem st_there {b : Int} {s : AW} {T : Tab} (S : Sw b s T) (t : Nat) (c : Clm) (mo : Int) (h : s.M 0 = s.M 1) {p : Spt} {r : Int} (A : Stand1 b s.it T c.key p r) :
 ∃ n s4 tk f, n ≤ 30 ∧ St4 t s s4 ∧ Gos stOver (stStep t c mo) n (s, stNew) (s4, ⟨4, tk, f, stVer p, stZ.rm, stZ.pu, p, r, 0, 0, 0, 0, 0⟩) := by
 obtain ⟨n, s4, tk, f, h1, h2, h3, h4⟩ := st_find S t c mo h
 have S4 := S.st4 h2
 have A4 : Stand1 b s4.it T c.key p r := by rw [h2.it]; exact A
 rw [← h2.it, S4.some A4] at h3
 obtain ⟨e1, e2⟩ := h3
 rw [S4.rep.it p A.ok, A.rf] at e2
 have : stFound c { stZ with ln := 3, tk := tk, fd := f } f = ⟨4, tk, f, stVer p, stZ.rm, stZ.pu, p, r, 0, 0, 0, 0, 0⟩ := by
  unfold stFound
  rw [if_pos (by rw [e2]; have := fdHit_pos A.hit; omega), e1, e2]
  rfl
 rw [this] at h4
 exact ⟨n, s4, tk, f, h1, h2, h4⟩
theorem st_away {b : Int} {s : AW} {T : Tab} (S : Sw b s T) (t : Nat) (c : Clm) (mo : Int) (h : s.M 0 = s.M 1) (A : ∀ p r, ¬ Stand1 b s.it T c.key p r) :
 ∃ n s4 tk f, n ≤ 30 ∧ St4 t s s4 ∧ Gos stOver (stStep t c mo) n (s, stNew) (s4, ⟨if c.verb = 5 ∨ c.verb = 6 then 10 else 11, tk, f, [], stZ.rm, stZ.pu, sp20, 0, 0, 0, 0, 0, 0⟩) := by
 obtain ⟨n, s4, tk, f, h1, h2, h3, h4⟩ := st_find S t c mo h
 have S4 := S.st4 h2
 rw [← h2.it, S4.none (by rw [h2.it]; exact A)] at h3
 obtain ⟨e1, e2⟩ := h3
 have e2 : f.ref = 0 := e2
 have : stFound c { stZ with ln := 3, tk := tk, fd := f } f = ⟨if c.verb = 5 ∨ c.verb = 6 then 10 else 11, tk, f, [], stZ.rm, stZ.pu, sp20, 0, 0, 0, 0, 0, 0⟩ := by
  unfold stFound
  rw [if_neg (by rw [e2]; decide)]
  rfl
 rw [this] at h4
 exact ⟨n, s4, tk, f, h1, h2, h4⟩
end
end Go.Proofs.YtifkfhnbkjkakaaGreatDoor
