/- Layer 25, plain: a world of one table behind a record that came into a slot. -/
import Derived.Test.YthpedifjclofoaaGreatSu
namespace Go.Proofs.YthpedifjclofoaaGreat
set_option linter.unusedSimpArgs false
set_option linter.unusedVariables false
theorem fdHit_app {it : List It} {r : Int} {k : ByteArray} (x : It) (h : fdHit it r k = true) : fdHit (it ++ [x]) r k = true := by
  have h0 := h
  unfold fdHit at h0 ⊢
  simp only [Bool.and_eq_true, decide_eq_true_eq] at h0 ⊢
  refine ⟨h0.1, ?_⟩
  cases e : it[(r - 1).toNat]? with
  | none => rw [e] at h0; exact absurd h0.2 Bool.false_ne_true
  | some y =>
    obtain ⟨hl, -⟩ := List.getElem?_eq_some_iff.1 e
    rw [List.getElem?_append_left hl, e]
    rw [e] at h0
    exact h0.2
theorem fdHit_new (it : List It) (x : It) : fdHit (it ++ [x]) (it.length + 1) x.key = true := by
  unfold fdHit
  have e : ((it.length : Int) + 1 - 1).toNat = it.length := by omega
  rw [e, List.getElem?_append_right (Nat.le_refl _), Nat.sub_self]
  simp only [List.getElem?_cons_zero, Bool.and_eq_true, decide_eq_true_eq]
  exact ⟨by omega, trivial⟩
theorem Sw.put {b : Int} {s s' : AW} {T : Tab} (S : Sw b s T) {x : It} {p : Spt} (hp : p.ok) (hb : p.b = b) (hx : (b, p.q) ∈ plPair (kyH x.key) b) (hu : ∀ q r, Stand1 b s.it T x.key q r → q = p)
    (e2 : s'.M 2 = s.M 2) (hr : Rep s'.M (T.set p (fnvTag (kyH x.key), s.it.length + 1))) (hi : s'.it = s.it ++ [x]) :
    Sw b s' (T.set p (fnvTag (kyH x.key), s.it.length + 1)) ∧ Stand1 b s'.it (T.set p (fnvTag (kyH x.key), s.it.length + 1)) x.key p (s.it.length + 1) ∧
      (∀ l q r, l ≠ x.key → Stand1 b s.it T l q r → q ≠ p → Stand1 b s'.it (T.set p (fnvTag (kyH x.key), s.it.length + 1)) l q r) := by
  obtain ⟨v, hv⟩ : ∃ v, v = (fnvTag (kyH x.key), (s.it.length : Int) + 1) := ⟨_, rfl⟩
  rw [← hv] at hr ⊢
  have hnew : Stand1 b s'.it (T.set p v) x.key p (s.it.length + 1) := ⟨hp, hb, by rw [Tab.set_same, hv], by rw [hi]; exact fdHit_new _ _⟩
  have hold : ∀ l q r, Stand1 b s.it T l q r → q ≠ p → Stand1 b s'.it (T.set p v) l q r := fun l q r h hq => by
    refine ⟨h.ok, h.tb, ?_, by rw [hi]; exact fdHit_app _ h.hit⟩
    rw [Tab.set_ne _ fun e => hq (Spt.is_eq e)]
    exact h.rf
  have hback : ∀ l q r, Stand1 b s'.it (T.set p v) l q r → q ≠ p → Stand1 b s.it T l q r := fun l q r h hq => by
    have h1 := h.rf
    rw [Tab.set_ne _ fun e => hq (Spt.is_eq e)] at h1
    rcases S.sl q h.ok h.tb with e | ⟨m, u, g, -, -⟩
    · rw [e] at h1
      have := fdHit_pos h.hit
      have h1 : (0 : Int) = r := h1
      omega
    · have hru : r = u := h1.symm.trans g.rf
      subst hru
      have hg := fdHit_app x g.hit
      rw [← hi] at hg
      rw [fdHit_key h.hit hg]
      exact g
  refine ⟨⟨S.b0, S.b1, e2.trans S.wd, hr, fun q hq hqb => ?_, ?_⟩, hnew, fun l q r _ h hq => hold l q r h hq⟩
  · by_cases c : q = p
    · subst c
      exact .inr ⟨x.key, _, hnew, by rw [Tab.set_same, hv], hx⟩
    · rw [Tab.set_ne _ fun e => c (Spt.is_eq e)]
      rcases S.sl q hq hqb with e | ⟨m, u, g, g1, g2⟩
      · exact .inl e
      · exact .inr ⟨m, u, hold m q u g c, g1, g2⟩
  · have key : ∀ l q r, Stand1 b s'.it (T.set p v) l q r → Stand1 b s'.it (T.set p v) l p (s.it.length + 1) → q = p := fun l q r h k => by
      by_cases c : q = p
      · exact c
      · have hk : l = x.key := fdHit_key k.hit hnew.hit
        subst hk
        exact hu q r (hback _ q r h c)
    intro l q1 q2 r1 r2 h1 h2
    have fix : ∀ r, Stand1 b s'.it (T.set p v) l p r → Stand1 b s'.it (T.set p v) l p (s.it.length + 1) := fun r h => by
      have e := h.rf
      rw [Tab.set_same, hv] at e
      have e : (s.it.length : Int) + 1 = r := e
      rw [e]
      exact h
    by_cases c1 : q1 = p
    · subst c1
      exact (key l q2 r2 h2 (fix r1 h1)).symm
    · by_cases c2 : q2 = p
      · subst c2
        exact key l q1 r1 h1 (fix r2 h2)
      · exact S.one l q1 q2 r1 r2 (hback l q1 r1 h1 c1) (hback l q2 r2 h2 c2)
end Go.Proofs.YthpedifjclofoaaGreat
