/- Slots of tables, plain: what they hold, spot by spot. -/
import Derived.Test.YthpedifjclofoaaGreatHnP
namespace Go.Proofs.YthpedifjclofoaaGreat
set_option linter.unusedSimpArgs false
open Go.RowKit
set_option linter.unusedVariables false
/-- One spot. -/
abbrev Spt.is (p q : Spt) : Prop := p.b = q.b ∧ p.q = q.q ∧ p.s = q.s
theorem Spt.is_eq {p q : Spt} (h : p.is q) : p = q := by
  obtain ⟨a, b, c⟩ := p
  obtain ⟨a', b', c'⟩ := q
  obtain ⟨h1, h2, h3⟩ := h
  dsimp only at h1 h2 h3
  rw [h1, h2, h3]
theorem Spt.is_rfl (p : Spt) : p.is p := ⟨rfl, rfl, rfl⟩
theorem fnvSize_dbl {a b : Int} (a0 : 1 ≤ a) (h : a < b) (b1 : b ≤ 12) : 2 * fnvSize a ≤ fnvSize b := by
  rw [fnvSize_in a0 (by omega), fnvSize_in (by omega) b1]
  have h1 : 2 ^ (a.toNat + 1) ≤ 2 ^ b.toNat := Nat.pow_le_pow_right (by decide) (by omega)
  rw [Nat.pow_succ] at h1
  have h2 : ((2 ^ a.toNat : Nat) : Int) = (2 : Int) ^ a.toNat := by rw [Int.natCast_pow]; rfl
  have h3 : ((2 ^ b.toNat : Nat) : Int) = (2 : Int) ^ b.toNat := by rw [Int.natCast_pow]; rfl
  rw [← h2, ← h3]
  omega
/-- No two spots share a word, but those of one bucket their tags. -/
theorem Spt.tags_inj {p q : Spt} (hp : p.ok) (hq : q.ok) (h : p.tags = q.tags) : p.b = q.b ∧ p.q = q.q := by
  have h1 := hp.tags.2.2
  have h2 := hq.tags.2.2
  have p0 := hp.q0
  have p1 := hp.q1
  have q0 := hq.q0
  have q1 := hq.q1
  have hb : p.b = q.b := by
    by_cases c : p.b < q.b
    · have := fnvSize_dbl hp.b0 c hq.b1; omega
    · by_cases d : q.b < p.b
      · have := fnvSize_dbl hq.b0 d hp.b1; omega
      · omega
  rw [hb] at h1
  exact ⟨hb, by omega⟩
theorem Spt.tags_8 {p : Spt} (hp : p.ok) : p.tags % 8 = 0 := by have := hp.tags.2.2; omega
theorem Spt.item_8 {p : Spt} (hp : p.ok) : p.item % 8 = 1 + p.s ∧ p.item = p.tags + 1 + p.s := by
  have h1 := hp.tags.2.2
  have h2 := hp.item.2.2
  have := hp.s0
  have := hp.s1
  omega
theorem Spt.item_tags {p q : Spt} (hp : p.ok) (hq : q.ok) : p.item ≠ q.tags := by
  have h1 := Spt.item_8 hp
  have h2 := Spt.tags_8 hq
  have := hp.s0
  have := hp.s1
  omega
theorem Spt.item_is {p q : Spt} (hp : p.ok) (hq : q.ok) (h : p.item = q.item) : p.is q := by
  have h1 := Spt.item_8 hp
  have h2 := Spt.item_8 hq
  have := hp.s0
  have := hp.s1
  have := hq.s0
  have := hq.s1
  have h3 := Spt.tags_inj hp hq (by omega)
  exact ⟨h3.1, h3.2, by omega⟩
theorem Spt.tags_of {p q : Spt} (h1 : p.b = q.b) (h2 : p.q = q.q) : p.tags = q.tags := by unfold Spt.tags; rw [h1, h2]
/-- What all spots hold: a tag, an item's number. -/
abbrev Tab := Spt → Int × Int
def Tab.set (T : Tab) (p : Spt) (x : Int × Int) : Tab := fun q => if q.is p then x else T q
theorem Tab.set_same (T : Tab) (p : Spt) (x : Int × Int) : T.set p x p = x := by unfold Tab.set; rw [if_pos (Spt.is_rfl p)]
theorem Tab.set_ne {T : Tab} {p q : Spt} (x : Int × Int) (h : ¬ q.is p) : T.set p x q = T q := by unfold Tab.set; rw [if_neg h]
structure Rep (M : Int → Int) (T : Tab) : Prop where
  tg : ∀ p : Spt, p.ok → twTag (M p.tags) p.s = (T p).1
  it : ∀ p : Spt, p.ok → M p.item = (T p).2
  wd : ∀ p : Spt, p.ok → 0 ≤ M p.tags ∧ M p.tags < 4294967296
theorem Rep.low {M M' : Int → Int} {T : Tab} (h : Rep M T) (e : ∀ a, 4096 ≤ a → a < 4294967296 → M' a = M a) : Rep M' T :=
  ⟨fun p hp => by rw [e _ hp.tags.1 hp.tags.2.1]; exact h.tg p hp, fun p hp => by rw [e _ hp.item.1 hp.item.2.1]; exact h.it p hp, fun p hp => by rw [e _ hp.tags.1 hp.tags.2.1]; exact h.wd p hp⟩
theorem Rep.slot {M M' : Int → Int} {T : Tab} (h : Rep M T) {p : Spt} (hp : p.ok) {tg rf : Int} (t0 : 0 ≤ tg) (t1 : tg ≤ 255) (e1 : M' p.tags = twWith (M p.tags) p.s tg) (e2 : M' p.item = rf)
    (e3 : ∀ a, 4096 ≤ a → a < 4294967296 → a ≠ p.tags → a ≠ p.item → M' a = M a) : Rep M' (T.set p (tg, rf)) := by
  have hw := h.wd p hp
  refine ⟨fun q hq => ?_, fun q hq => ?_, fun q hq => ?_⟩
  · by_cases c : q.tags = p.tags
    · have hb := Spt.tags_inj hq hp c
      rw [c, e1, twTag_with hw.1 hp.s0 hp.s1 t0 t1 hq.s0 hq.s1]
      by_cases d : q.s = p.s
      · rw [if_pos d]; unfold Tab.set; rw [if_pos ⟨hb.1, hb.2, d⟩]
      · rw [if_neg d, Tab.set_ne _ (fun x => d x.2.2), ← h.tg q hq, c]
    · rw [e3 _ hq.tags.1 hq.tags.2.1 c (fun x => Spt.item_tags hp hq x.symm), Tab.set_ne _ (fun x => c (Spt.tags_of x.1 x.2.1))]
      exact h.tg q hq
  · by_cases c : q.item = p.item
    · have := Spt.is_eq (Spt.item_is hq hp c)
      subst this
      rw [Tab.set_same, e2]
    · rw [e3 _ hq.item.1 hq.item.2.1 (Spt.item_tags hq hp) c, Tab.set_ne _ (fun x => c (by rw [Spt.is_eq x]))]
      exact h.it q hq
  · by_cases c : q.tags = p.tags
    · rw [c, e1]; exact twWith_32 hw.1 hw.2 hp.s0 hp.s1 t0 t1
    · rw [e3 _ hq.tags.1 hq.tags.2.1 c (fun x => Spt.item_tags hp hq x.symm)]; exact h.wd q hq
theorem twFree_neg {w k : Int} (h : twFree w < 0) (k0 : 0 ≤ k) (k1 : k ≤ 3) : twTag w k ≠ 0 := by
  unfold twFree at h
  have hk4 : k = 0 ∨ k = 1 ∨ k = 2 ∨ k = 3 := by omega
  intro e
  rcases hk4 with rfl | rfl | rfl | rfl
  · rw [if_pos e] at h; omega
  · repeat' split at h
    all_goals first | omega | contradiction
  · repeat' split at h
    all_goals first | omega | contradiction
  · repeat' split at h
    all_goals first | omega | contradiction
theorem twFree_pos {w : Int} (h : 0 ≤ twFree w) : twTag w (twFree w) = 0 := by
  unfold twFree at h ⊢
  by_cases c0 : twTag w 0 = 0
  · rw [if_pos c0]; exact c0
  · rw [if_neg c0] at h ⊢
    by_cases c1 : twTag w 1 = 0
    · rw [if_pos c1]; exact c1
    · rw [if_neg c1] at h ⊢
      by_cases c2 : twTag w 2 = 0
      · rw [if_pos c2]; exact c2
      · rw [if_neg c2] at h ⊢
        by_cases c3 : twTag w 3 = 0
        · rw [if_pos c3]; exact c3
        · rw [if_neg c3] at h; omega
end Go.Proofs.YthpedifjclofoaaGreat
