/- Layer 24, plain: a Victim by itself that drops an item, or fails. -/
import Derived.Test.YtlcibfpibklbdaaGreatVcF
namespace Go.Proofs.YtlcibfpibklbdaaGreat
set_option linter.unusedSimpArgs false
set_option linter.unusedVariables false
open Go.RowKit
/-- What a Victim that drops an item leaves. -/
def vcOut (M : Int → Int) (p : Spt) : Int → Int :=
  let M1 := upd M p.ver ((M p.ver + 1) % 18446744073709551616)
  let M2 := upd M1 p.tags (twWith (M1 p.tags) p.s 0)
  let M3 := upd M2 p.item 0
  let M4 := upd M3 p.ver ((M3 p.ver + 1) % 18446744073709551616)
  upd M4 6 ((M4 6 + 18446744073709551615) % 18446744073709551616)
theorem vcOut_eq (M : Int → Int) (p : Spt) (hp : p.ok) (a : Int) : vcOut M p a =
    if a = 6 then (M 6 + 18446744073709551615) % 18446744073709551616 else if a = p.ver then ((M p.ver + 1) % 18446744073709551616 + 1) % 18446744073709551616
      else if a = p.item then 0 else if a = p.tags then twWith (M p.tags) p.s 0 else M a := by
  have h1 := hp.tags
  have h2 := hp.item
  have h3 := hp.ver
  have h4 := hp.s0
  have h5 := hp.s1
  unfold vcOut
  try dsimp only
  unfold upd
  by_cases c6 : a = 6
  · subst c6; simp; rw [if_neg (by omega), if_neg (by omega), if_neg (by omega), if_neg (by omega)]
  by_cases cv : a = p.ver
  · subst cv; simp [c6]; rw [if_neg (by omega), if_neg (by omega)]; omega
  by_cases ci : a = p.item
  · subst ci; simp [c6, cv]
  by_cases ct : a = p.tags
  · subst ct; simp [c6, cv, ci]
  · simp [c6, cv, ci, ct]
section
variable {b a o : Int} {M : Int → Int}
/-- A slot whose item is not marked. -/
theorem VcJ.drop {s0 : AW} {J : Nat} {x : AW × Vcm} (H : VcJ b a o M s0 J x) (hI : ∀ j : Nat, j < J + 1 → 1 ≤ vcI b a o M j ∧ vcI b a o M j ≤ 9223372036854775807) (hlow : (vcP b a o J).item ≤ 4294967296) (hj : vcM b a o M J (plRef (vcI b a o M J)) % 2 = 0) :
    ∃ y, Gos vcOver vcStep 8 x y ∧ y.2.ln = 0 ∧ y.2.is = true ∧ y.2.p = vcP b a o J ∧ y.1.M = vcOut (vcM b a o M J) (vcP b a o J) ∧
      (∃ n1 h1, y.1.nt = ntAdd s0.nt ⟨n1, h1, 1, vcI b a o M J, (vcP b a o J).b, (vcP b a o J).q, (vcP b a o J).s, 0⟩) ∧ y.1.it = s0.it ∧ y.1.n = s0.n + 3 * J + 8 := by
  obtain ⟨s, ⟨ln, p, last, r, mw, is, ot⟩⟩ := x
  obtain ⟨h1, h2, h3, h4, h5, h6, h7, h8⟩ := H
  dsimp only at h1 h2 h3 h4 h5 h6 h7 h8
  subst h1 h2 h3 h4
  have hr : vcRef s ⟨1, vcP b a last J, last, r, mw, false, ot⟩ = vcI b a last M J := by
    unfold vcRef
    dsimp only
    rw [h5, vcM_low (fun j hj' => (hI j (by omega)).1) _ hlow]
    have := hI J (by omega)
    exact IntWalk.wrap64_in _ (by unfold vcI at this; omega)
  have hne : vcI b a last M J ≠ 0 := by have := hI J (by omega); omega
  obtain ⟨rr, hrr⟩ : ∃ rr, rr = vcI b a last M J := ⟨_, rfl⟩
  obtain ⟨p, hp⟩ : ∃ p, p = vcP b a last J := ⟨_, rfl⟩
  rw [← hrr, ← hp] at hr
  rw [← hrr] at hne hj ⊢
  rw [← hp]
  have hm : s.M (plRef rr) % 2 = 0 := by rw [h5]; exact hj
  have e1 : vcStep (s, ⟨1, p, last, r, mw, false, ot⟩) = (awLoad p.item s, ⟨2, p, last, rr, mw, false, ot⟩) := by
    rw [vcStep_1 _ _ rfl, hr, if_neg hne]
  obtain ⟨s1, hs1⟩ : ∃ x, x = awLoad p.item s := ⟨_, rfl⟩
  have m1 : s1.M = s.M := by rw [hs1]; rfl
  have e2 : vcStep (s1, ⟨2, p, last, rr, mw, false, ot⟩) = (awLoad (plRef rr) s1, ⟨4, p, last, rr, s.M (plRef rr), false, ⟨0, 0⟩⟩) := by
    have hmk : rfMarked (s1.M (plRef rr)) = false := by unfold rfMarked; rw [m1]; exact decide_eq_false (by omega)
    rw [vcStep_2 _ _ rfl]
    dsimp only
    rw [hmk, m1]
    rfl
  have e3 : ∀ (s : AW) mw, vcStep (s, ⟨4, p, last, rr, mw, false, ⟨0, 0⟩⟩) = (awAdd p.ver 1 s, ⟨5, p, last, rr, mw, false, ⟨0, 0⟩⟩) := fun s mw => vcStep_4 _ _ rfl
  have e4 : ∀ (s : AW) mw, vcStep (s, ⟨5, p, last, rr, mw, false, ⟨0, 0⟩⟩) = (awLoad p.tags s, ⟨5, p, last, rr, mw, false, ⟨1, s.M p.tags⟩⟩) := fun s mw => vcStep_5 _ _ rfl
  have e5 : ∀ (s : AW) mw wd, vcStep (s, ⟨5, p, last, rr, mw, false, ⟨1, wd⟩⟩) = (awNote 1 rr p.b p.q p.s 0 (awStore p.tags (twWith wd p.s 0) s), ⟨5, p, last, rr, mw, false, ⟨2, wd⟩⟩) := fun s mw wd => vcStep_5 _ _ rfl
  have e6 : ∀ (s : AW) mw wd, vcStep (s, ⟨5, p, last, rr, mw, false, ⟨2, wd⟩⟩) = (awStore p.item 0 s, ⟨6, p, last, rr, mw, false, ⟨3, wd⟩⟩) := fun s mw wd => vcStep_5 _ _ rfl
  have e7 : ∀ (s : AW) mw o, vcStep (s, ⟨6, p, last, rr, mw, false, o⟩) = (awAdd p.ver 1 s, ⟨7, p, last, rr, mw, false, o⟩) := fun s mw o => vcStep_6 _ _ rfl
  have e8 : ∀ (s : AW) mw o, vcStep (s, ⟨7, p, last, rr, mw, false, o⟩) = (awAdd 6 18446744073709551615 s, ⟨0, p, last, rr, mw, true, o⟩) := fun s mw o => vcStep_7 _ _ rfl
  have ov : ∀ ln mw o, ln ≠ 0 → vcOver ⟨ln, p, last, rr, mw, false, o⟩ = false := fun ln mw o hl => by unfold vcOver; simpa using hl
  refine' ⟨_, ⟨rfl, ?_⟩, ?_⟩
  rotate_left
  · rw [e1, ← hs1]
    refine ⟨ov _ _ _ (by decide), ?_⟩
    rw [e2]
    refine ⟨ov _ _ _ (by decide), ?_⟩
    rw [e3]
    refine ⟨ov _ _ _ (by decide), ?_⟩
    rw [e4]
    refine ⟨ov _ _ _ (by decide), ?_⟩
    rw [e5]
    refine ⟨ov _ _ _ (by decide), ?_⟩
    rw [e6]
    refine ⟨ov _ _ _ (by decide), ?_⟩
    rw [e7]
    refine ⟨ov _ _ _ (by decide), ?_⟩
    rw [e8]
    rfl
  · refine ⟨rfl, rfl, rfl, ?_, ?_, ?_, ?_⟩
    · rw [hs1, ← h5]
      rfl
    · refine ⟨s.n + 1 + 1 + 1 + 1 + 1, s.ho, ?_⟩
      rw [hs1]
      show ntAdd s.nt _ = _
      rw [h6]
      rfl
    · rw [hs1]; exact h7
    · rw [hs1]; show s.n + 1 + 1 + 1 + 1 + 1 + 1 + 1 + 1 = _; rw [h8]; omega
/-- All items are marked. -/
theorem vc_fail {h : Int} {s : AW} (b0 : 1 ≤ b) (b1 : b ≤ 12) (ha : a = fnvBucket h b) (ho : o = fnvOther a (fnvTag h) b) (hI : ∀ j : Nat, j < vcN a o → 1 ≤ vcI b a o s.M j ∧ vcI b a o s.M j ≤ 9223372036854775807)
    (hlow : ∀ j, j < 8 → (vcP b a o j).item ≤ 4294967296) (hd : ∀ i j, i < vcN a o → j < vcN a o → vcI b a o s.M i = vcI b a o s.M j → i = j) (hm : ∀ j, j < vcN a o → s.M (plRef (vcI b a o s.M j)) % 2 = 1) (most : Nat) (hmost : 24 ≤ most) :
    ∃ c y z, runN vcOver vcStep most (s, vcNew b h) = (c, y, z) ∧ z.ln = 0 ∧ z.is = false ∧ y.M = vcM b a o s.M (vcN a o) ∧ y.nt = s.nt ∧ y.it = s.it := by
  have hn := vcN_le a o
  have h0 : VcJ b a o s.M s 0 (s, vcNew b h) := by
    unfold vcNew
    rw [if_pos (show vcTab b from ⟨b0, b1⟩), ← ha, ← ho]
    exact ⟨rfl, rfl, rfl, rfl, rfl, rfl, rfl, by show s.n = s.n + 3 * ((0 : Nat) : Int); omega⟩
  obtain ⟨N, hN⟩ : ∃ N, N + 1 = vcN a o := ⟨vcN a o - 1, by omega⟩
  have hmm : ∀ j, j < vcN a o → vcM b a o s.M j (plRef (vcI b a o s.M j)) % 2 = 1 := fun j hj => by
    rw [vcM_out _ fun i hi q => by
      have := hd j i hj (by omega) (plRef_inj (hI j hj).1 (hI i (by omega)).1 q)
      omega]
    exact hm j hj
  obtain ⟨x, hg, hx⟩ := h0.scan N (by omega) (fun j hj => hI j (by omega)) hlow fun j hj => hmm j (by omega)
  obtain ⟨⟨y, z⟩, hg2, -, k2⟩ := hx.by (fun j hj => hI j (by omega)) (hlow N (by omega)) (hmm N (by omega))
  obtain ⟨z1, z2, z3, z4, z5, -⟩ := k2 hN
  rw [hN] at z3
  exact ⟨_, y, z, (hg.trans hg2).fin (m := most) (by omega) (by show (z.ln == 0) = true; rw [show z.ln = 0 from z1]; rfl), z1, z2, z3, z4, z5⟩
/-- Marked items, then an empty slot: what is left. -/
theorem vc_freeM {h : Int} {s : AW} (b0 : 1 ≤ b) (b1 : b ≤ 12) (ha : a = fnvBucket h b) (ho : o = fnvOther a (fnvTag h) b) (k : Nat) (hk : k < vcN a o) (hI : ∀ j : Nat, j < k → 1 ≤ vcI b a o s.M j ∧ vcI b a o s.M j ≤ 9223372036854775807)
    (hlow : ∀ j, j < 8 → (vcP b a o j).item ≤ 4294967296) (hd : ∀ i j, i < k → j < k → vcI b a o s.M i = vcI b a o s.M j → i = j) (hm : ∀ j, j < k → s.M (plRef (vcI b a o s.M j)) % 2 = 1) (hz : vcI b a o s.M k = 0) (most : Nat) (hmost : 32 ≤ most) :
    ∃ c y z, runN vcOver vcStep most (s, vcNew b h) = (c, y, z) ∧ z.ln = 0 ∧ z.is = true ∧ z.p = vcP b a o k ∧ y.M = vcM b a o s.M k ∧ y.nt = s.nt ∧ y.it = s.it := by
  have hn := vcN_le a o
  have h0 : VcJ b a o s.M s 0 (s, vcNew b h) := by
    unfold vcNew
    rw [if_pos (show vcTab b from ⟨b0, b1⟩), ← ha, ← ho]
    exact ⟨rfl, rfl, rfl, rfl, rfl, rfl, rfl, by show s.n = s.n + 3 * ((0 : Nat) : Int); omega⟩
  obtain ⟨x, hg, hx⟩ := h0.scan k hk hI hlow fun j hj => by
    rw [vcM_out _ fun i hi q => by
      have := hd j i hj (by omega) (plRef_inj (hI j hj).1 (hI i (by omega)).1 q)
      omega]
    exact hm j hj
  obtain ⟨⟨y, z⟩, hg2, z1, z2, z3, z4, z5, z6, -⟩ := hx.free (fun j hj => (hI j hj).1) (hlow k (by omega)) hz
  exact ⟨_, y, z, (hg.trans hg2).fin (m := most) (by omega) (by show (z.ln == 0) = true; rw [show z.ln = 0 from z1]; rfl), z1, z2, z3, z4, z5, z6⟩
/-- Marked items, then one that is not marked. -/
theorem vc_drop {h : Int} {s : AW} (b0 : 1 ≤ b) (b1 : b ≤ 12) (ha : a = fnvBucket h b) (ho : o = fnvOther a (fnvTag h) b) (k : Nat) (hk : k < vcN a o) (hI : ∀ j : Nat, j < k + 1 → 1 ≤ vcI b a o s.M j ∧ vcI b a o s.M j ≤ 9223372036854775807)
    (hlow : ∀ j, j < 8 → (vcP b a o j).item ≤ 4294967296) (hd : ∀ i j, i < k + 1 → j < k + 1 → vcI b a o s.M i = vcI b a o s.M j → i = j) (hm : ∀ j, j < k → s.M (plRef (vcI b a o s.M j)) % 2 = 1) (hz : s.M (plRef (vcI b a o s.M k)) % 2 = 0) (most : Nat) (hmost : 32 ≤ most) :
    ∃ c y z, runN vcOver vcStep most (s, vcNew b h) = (c, y, z) ∧ z.ln = 0 ∧ z.is = true ∧ z.p = vcP b a o k ∧ y.M = vcOut (vcM b a o s.M k) (vcP b a o k) ∧
      (∃ n1 h1, y.nt = ntAdd s.nt ⟨n1, h1, 1, vcI b a o s.M k, (vcP b a o k).b, (vcP b a o k).q, (vcP b a o k).s, 0⟩) ∧ y.it = s.it := by
  have hn := vcN_le a o
  have h0 : VcJ b a o s.M s 0 (s, vcNew b h) := by
    unfold vcNew
    rw [if_pos (show vcTab b from ⟨b0, b1⟩), ← ha, ← ho]
    exact ⟨rfl, rfl, rfl, rfl, rfl, rfl, rfl, by show s.n = s.n + 3 * ((0 : Nat) : Int); omega⟩
  have hmm : ∀ j, j < k + 1 → vcM b a o s.M j (plRef (vcI b a o s.M j)) = s.M (plRef (vcI b a o s.M j)) := fun j hj => 
    vcM_out _ fun i hi q => by
      have := hd j i hj (by omega) (plRef_inj (hI j hj).1 (hI i (by omega)).1 q)
      omega
  obtain ⟨x, hg, hx⟩ := h0.scan k hk (fun j hj => hI j (by omega)) hlow fun j hj => by rw [hmm j (by omega)]; exact hm j hj
  obtain ⟨⟨y, z⟩, hg2, z1, z2, z3, z4, z5, z6, -⟩ := hx.drop hI (hlow k (by omega)) (by rw [hmm k (by omega)]; exact hz)
  exact ⟨_, y, z, (hg.trans hg2).fin (m := most) (by omega) (by show (z.ln == 0) = true; rw [show z.ln = 0 from z1]; rfl), z1, z2, z3, z4, z5, z6⟩
end
end Go.Proofs.YtlcibfpibklbdaaGreat
