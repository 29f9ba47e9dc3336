/- Layers 15, 25, plain: a world of one table, each key once at most; what a Find finds there. -/
import Derived.Test.YthpedifjclofoaaGreatSq
import Derived.Test.YthpedifjclofoaaGreatLay
namespace Go.Proofs.YthpedifjclofoaaGreat
set_option linter.unusedSimpArgs false
set_option linter.unusedVariables false
/-- A key's item stands at a spot, under a record's number. -/
structure Stand1 (b : Int) (it : List It) (T : Tab) (k : ByteArray) (p : Spt) (r : Int) : Prop where
  ok : p.ok
  tb : p.b = b
  rf : (T p).2 = r
  hit : fdHit it r k = true
/-- One table, of b bits: what stands there. -/
structure Sw (b : Int) (s : AW) (T : Tab) : Prop where
  b0 : 1 ≤ b
  b1 : b ≤ 11
  wd : s.M 2 = b
  rep : Rep s.M T
  sl : ∀ p : Spt, p.ok → p.b = b → T p = (0, 0) ∨ ∃ (k : ByteArray) (r : Int), Stand1 b s.it T k p r ∧ (T p).1 = fnvTag (kyH k) ∧ (b, p.q) ∈ plPair (kyH k) b
  one : ∀ (k : ByteArray) (p q : Spt) (r u : Int), Stand1 b s.it T k p r → Stand1 b s.it T k q u → p = q
theorem kyH_bd (k : ByteArray) : 0 ≤ kyH k ∧ kyH k < 18446744073709551616 := fnvHash_bd _
theorem fdHit_key {it : List It} {r : Int} {k l : ByteArray} (h : fdHit it r k = true) (g : fdHit it r l = true) : k = l := by
  unfold fdHit at h g
  simp only [Bool.and_eq_true, decide_eq_true_eq] at h g
  cases e : it[(r - 1).toNat]? with
  | none => rw [e] at h; exact absurd h.2 Bool.false_ne_true
  | some x =>
    rw [e] at h g
    simp only [decide_eq_true_eq] at h g
    exact h.2.symm.trans g.2
theorem fdHit_pos {it : List It} {r : Int} {k : ByteArray} (h : fdHit it r k = true) : 1 ≤ r := by
  unfold fdHit at h
  simp only [Bool.and_eq_true, decide_eq_true_eq] at h
  exact h.1
theorem twHas_mem (w tag s : Int) : s ∈ twHas w tag ↔ (0 ≤ s ∧ s ≤ 3) ∧ twTag w s = tag := by
  unfold twHas
  rw [List.mem_filter]
  simp only [List.mem_cons, List.not_mem_nil, or_false, decide_eq_true_eq]
  constructor
  · rintro ⟨h, e⟩; exact ⟨by omega, e⟩
  · rintro ⟨h, e⟩; exact ⟨by omega, e⟩
theorem fdSpots_mem {b : Int} {s : AW} {T : Tab} (S : Sw b s T) (k : ByteArray) (p : Spt) : p ∈ fdSpots k s.M ↔ p.ok ∧ p.b = b ∧ (b, p.q) ∈ plPair (kyH k) b ∧ (T p).1 = fnvTag (kyH k) := by
  have hb0 := S.b0
  have hb1 := S.b1
  unfold fdSpots flSpots
  rw [S.wd, List.mem_flatMap]
  constructor
  · rintro ⟨a, ha, hp⟩
    obtain ⟨⟨pb, pq⟩, hx, rfl⟩ := List.mem_map.1 ha
    have hbd := plPlaces_bd (kyH_bd k).1 (kyH_bd k).2 hx
    rw [plPlaces_one hb0 (by omega)] at hx
    obtain ⟨sl, hs, rfl⟩ := List.mem_map.1 hp
    rw [twHas_mem] at hs
    have hpb : pb = b := by
      rw [plPair_in hb0 (by omega)] at hx
      simp only [List.mem_cons, List.not_mem_nil, or_false, Prod.mk.injEq] at hx
      omega
    subst hpb
    have hok : (⟨pb, pq, sl⟩ : Spt).ok := ⟨hbd.1, hbd.2.1, hbd.2.2.1, hbd.2.2.2, hs.1.1, hs.1.2⟩
    exact ⟨hok, rfl, hx, (S.rep.tg _ hok).symm.trans hs.2⟩
  · rintro ⟨hok, hpb, hx, ht⟩
    refine ⟨.tg b p.q, List.mem_map.2 ⟨(b, p.q), (plPlaces_one hb0 (by omega) _).2 hx, rfl⟩, List.mem_map.2 ⟨p.s, ?_, ?_⟩⟩
    · rw [twHas_mem]
      refine ⟨⟨hok.s0, hok.s1⟩, ?_⟩
      have := S.rep.tg p hok
      unfold Spt.tags at this
      rw [← hpb, this, ht]
    · obtain ⟨x, y, z⟩ := p
      dsimp only at hpb ⊢
      rw [hpb]
theorem Stand1.at {b : Int} {s : AW} {T : Tab} (S : Sw b s T) {k : ByteArray} {p : Spt} {r : Int} (h : Stand1 b s.it T k p r) : (T p).1 = fnvTag (kyH k) ∧ (b, p.q) ∈ plPair (kyH k) b := by
  rcases S.sl p h.ok h.tb with e | ⟨l, u, g, g1, g2⟩
  · have h1 := h.rf
    rw [e] at h1
    have := fdHit_pos h.hit
    have h1 : (0 : Int) = r := h1
    omega
  · have : k = l := fdHit_key h.hit (by rw [← h.rf, g.rf]; exact g.hit)
    rw [this]
    exact ⟨g1, g2⟩
/-- It is found. -/
theorem Sw.some {b : Int} {s : AW} {T : Tab} (S : Sw b s T) {k : ByteArray} {p : Spt} {r : Int} (h : Stand1 b s.it T k p r) : (fdSpots k s.M).find? (flHit s.it s.M k) = some p := by
  have hp : p ∈ fdSpots k s.M := (fdSpots_mem S k p).2 ⟨h.ok, h.tb, (h.at S).2, (h.at S).1⟩
  have hh : flHit s.it s.M k p = true := by unfold flHit; rw [S.rep.it p h.ok, h.rf]; exact h.hit
  cases e : (fdSpots k s.M).find? (flHit s.it s.M k) with
  | none => exact absurd hh (by have := List.find?_eq_none.1 e p hp; exact this)
  | some q =>
    have hq := List.mem_of_find?_eq_some e
    have hg := List.find?_some e
    obtain ⟨q1, q2, -, -⟩ := (fdSpots_mem S k q).1 hq
    unfold flHit at hg
    rw [S.rep.it q q1] at hg
    rw [S.one k q p _ _ ⟨q1, q2, rfl, hg⟩ h]
/-- What does not stand is not found. -/
theorem Sw.none {b : Int} {s : AW} {T : Tab} (S : Sw b s T) {k : ByteArray} (h : ∀ p r, ¬ Stand1 b s.it T k p r) : (fdSpots k s.M).find? (flHit s.it s.M k) = none := by
  rw [List.find?_eq_none]
  intro q hq hg
  obtain ⟨q1, q2, -, -⟩ := (fdSpots_mem S k q).1 hq
  unfold flHit at hg
  rw [S.rep.it q q1] at hg
  exact h q _ ⟨q1, q2, rfl, hg⟩
end Go.Proofs.YthpedifjclofoaaGreat
