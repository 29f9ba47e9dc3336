/- Layer 25, plain: Stores of one key, one behind the other, in a new world. -/
import Derived.Test.YthpedifjclofoaaGreatSz
namespace Go.Proofs.YthpedifjclofoaaGreat
set_option linter.unusedSimpArgs false
set_option linter.unusedVariables false
/-- One key's item, with n records behind it, j Stores behind the beginning. -/
structure AgS (b : Int) (k : ByteArray) (s : AW) (p : Spt) (T : Tab) (n : Nat) (x : It) (j : Nat) : Prop where
  sw : Sw b s T
  std : Stand1 b s.it T k p n
  only : ∀ l q r, Stand1 b s.it T l q r → l = k
  len : s.it.length = n
  last : itAt s.it n = x
  ids : s.M 7 = n
  cnt : s.M 6 = 1
  srv : s.M 1 = j
  nxt : s.M 0 = j
  ep : s.M 8 = 0
  ho : s.ho = -1
  nt : s.nt = []
  n0 : 0 ≤ s.n
  n1 : s.n ≤ 60 * j
theorem itAt_new (it : List It) (x : It) : itAt (it ++ [x]) ((it.length : Int) + 1) = x := by
  unfold itAt
  rw [if_pos ⟨by omega, by rw [List.length_append, List.length_singleton]; omega⟩]
  have e : ((it.length : Int) + 1 - 1).toNat = it.length := by omega
  rw [e, List.getElem?_append_right (Nat.le_refl _), Nat.sub_self]
  rfl
theorem sw_new {b : Int} (b0 : 1 ≤ b) (b1 : b ≤ 11) : Sw b (aw0 b) (fun _ => (0, 0)) := by
  have hM : ∀ a, a ≠ 2 → (aw0 b).M a = 0 := fun a h => by show upd (fun _ => 0) 2 (plWord b 0) a = 0; rw [upd_other _ h]
  refine ⟨b0, b1, ?_, ⟨fun p hp => ?_, fun p hp => ?_, fun p hp => ?_⟩, fun p _ _ => .inl rfl, fun k p q r u h _ => ?_⟩
  · show upd (fun _ => 0) 2 (plWord b 0) 2 = b
    rw [upd_same]
    unfold plWord
    omega
  · rw [hM _ (by have := hp.tags; omega)]
    unfold twTag
    split <;> simp
  · exact hM _ (by have := hp.item; omega)
  · rw [hM _ (by have := hp.tags; omega)]; decide
  · have h1 := h.rf
    have := fdHit_pos h.hit
    have h1 : (0 : Int) = r := h1
    omega
theorem ag_new {b : Int} (b0 : 1 ≤ b) (b1 : b ≤ 11) (t : Nat) (c : Clm) (hv : ¬ (c.verb = 5 ∨ c.verb = 6)) :
    ∃ m s' z' p T, runN stOver (stStep t c 16) 200000 (aw0 b, stNew) = (m, s', z') ∧ stOver z' = true ∧ z'.an = 1 ∧ z'.nu = 1 ∧ AgS b c.key s' p T 1 (stIt c 1 0) 1 ∧ ∀ a, 64 ≤ a → a < 128 → s'.M a % 2 = 0 := by
  have S := sw_new b0 b1
  have hM : ∀ a, a ≠ 2 → (aw0 b).M a = 0 := fun a h => by show upd (fun _ => 0) 2 (plWord b 0) a = 0; rw [upd_other _ h]
  have hk := kyH_bd c.key
  have hbk := fnvBucket_bd (h := kyH c.key) b0 (by omega : b ≤ 12)
  have hno : ∀ l p r, ¬ Stand1 b (aw0 b).it (fun _ => (0, 0)) l p r := fun l p r h => by
    have h1 := h.rf
    have := fdHit_pos h.hit
    have h1 : (0 : Int) = r := h1
    omega
  have htg : plTags b (fnvBucket (kyH c.key) b) ≠ 2 := by unfold plTags; split <;> omega
  obtain ⟨m, s', z', p, h1, h2, h3, h4, h5, h6, h7, h8, h9, h10, h11⟩ := st_news S t c 16 (by rw [hM 0 (by decide), hM 1 (by decide)]) (hno c.key) hv (by rw [hM _ htg]; decide)
  have e7 := hM 7 (by decide)
  have e8 := hM 8 (by decide)
  have e6 := hM 6 (by decide)
  rw [e7] at h5 h6 h7
  rw [e8] at h7
  rw [e6] at h6
  have hi : s'.it = [stIt c 1 0] := h7
  have hn0 := h6.n0
  have hn1 := h6.n1
  have hz : (aw0 b).n = 0 := rfl
  rw [hz] at hn0 hn1
  refine ⟨m, s', z', p, _, h2.fin (by omega) h3, h3, h4, h5, ⟨h8, h9, fun l q r g => ?_, by rw [hi]; rfl, by rw [hi]; exact itAt_new [] _, h6.m7, h6.m6, ?_, ?_, by rw [h6.m8, e8], h6.ho, h6.nt, hn0, by omega⟩, fun a q0 q1 => by rw [h11 a q0 q1, hM a (by omega)]; rfl⟩
  · by_cases e : q = p
    · subst e
      have hr : r = 1 := by rw [← g.rf, Tab.set_same]; rfl
      subst hr
      exact fdHit_key g.hit h9.hit
    · have hr := g.rf
      rw [Tab.set_ne _ fun x => e (Spt.is_eq x)] at hr
      have := fdHit_pos g.hit
      have hr : (0 : Int) = r := hr
      omega
  · rw [h6.m1, hM 1 (by decide)]; rfl
  · rw [h6.m0, hM 0 (by decide)]; rfl
theorem ag_repl {b : Int} {k : ByteArray} {s : AW} {p : Spt} {T : Tab} {n j : Nat} {x : It} (H : AgS b k s p T n x j) (t : Nat) (c : Clm) (hk : c.key = k) (hd : stDecide c x 0 = none) (hn : n < 1000000) (hj : j < 1000000) :
    ∃ m s' z' T', runN stOver (stStep t c 16) 200000 (s, stNew) = (m, s', z') ∧ stOver z' = true ∧ z'.an = 1 ∧ z'.nu = n + 1 ∧ AgS b k s' p T' (n + 1) (stIt c (n + 1) 0) (j + 1) := by
  subst hk
  obtain ⟨m, s', z', h1, h2, h3, h4, h5, h6, h7, h8, h9⟩ := st_replaces H.sw t c 16 (H.nxt.trans H.srv.symm) H.std (by rw [H.last, H.ep]; exact hd)
  have hm : (s.M 7 + 1) % 18446744073709551616 = n + 1 := by rw [H.ids]; omega
  rw [hm] at h5 h6 h7
  rw [H.ep] at h7
  have hl := H.len
  rw [hl] at h8 h9
  have a0 := h6.n0
  have a1 := h6.n1
  have a2 := H.n0
  have a3 := H.n1
  refine ⟨m, s', z', _, h2.fin (by omega) h3, h3, h4, h5, ⟨h8, h9, fun l q r g => ?_, ?_, ?_, h6.m7, h6.m6.trans H.cnt, ?_, ?_, h6.m8.trans H.ep, h6.ho, h6.nt.trans H.nt, by omega, by push_cast; omega⟩⟩
  · by_cases e : q = p
    · subst e
      have hr : r = n + 1 := by rw [← g.rf, Tab.set_same]
      subst hr
      exact fdHit_key g.hit h9.hit
    · rcases H.sw.sl q g.ok g.tb with e1 | ⟨m, u, g1, -, -⟩
      · have hr := g.rf
        rw [Tab.set_ne _ fun x => e (Spt.is_eq x), e1] at hr
        have := fdHit_pos g.hit
        have hr : (0 : Int) = r := hr
        omega
      · have := H.only m q u g1
        subst this
        exact absurd (H.sw.one _ _ _ _ _ g1 H.std) e
  · rw [h7, List.length_append, hl]; rfl
  · have := itAt_new s.it (stIt c (n + 1) 0)
    rw [hl] at this
    rw [h7]
    exact this
  · rw [h6.m1, H.srv]; push_cast; omega
  · rw [h6.m0, H.nxt]; push_cast; omega
theorem ag_tell {b : Int} {k : ByteArray} {s : AW} {p : Spt} {T : Tab} {n j : Nat} {x : It} {a : Int} (H : AgS b k s p T n x j) (t : Nat) (c : Clm) (hk : c.key = k) (hd : stDecide c x 0 = some a) (hj : j < 1000000) :
    ∃ m s' z', runN stOver (stStep t c 16) 200000 (s, stNew) = (m, s', z') ∧ stOver z' = true ∧ z'.an = a ∧ z'.nu = 0 ∧ AgS b k s' p T n x (j + 1) := by
  subst hk
  obtain ⟨m, s', z', h1, h2, h3, h4, h5, h6, h7, h8⟩ := st_tells H.sw t c 16 (H.nxt.trans H.srv.symm) H.std (by rw [H.last, H.ep]; exact hd)
  have a0 := h6.n0
  have a1 := h6.n1
  have a2 := H.n0
  have a3 := H.n1
  refine ⟨m, s', z', h2.fin (by omega) h3, h3, h4, h5, ⟨h8, by rw [h7]; exact H.std, by rw [h7]; exact H.only, by rw [h7]; exact H.len, by rw [h7]; exact H.last, h6.m7.trans H.ids, h6.m6.trans H.cnt, ?_, ?_, h6.m8.trans H.ep, h6.ho, h6.nt.trans H.nt, by omega, by push_cast; omega⟩⟩
  · rw [h6.m1, H.srv]; push_cast; omega
  · rw [h6.m0, H.nxt]; push_cast; omega
theorem alive_new (c : Clm) (i : Int) (h : c.exp = 0) : epAlive (stIt c i 0).dies (stIt c i 0).gen 0 = true := by
  unfold stIt
  dsimp only
  rw [h]
  decide
theorem dec_set {c : Clm} {x : It} (h : c.verb = 3) : stDecide c x 0 = none := by
  unfold stDecide
  rw [if_neg (by rw [h]; rintro (⟨e, -⟩ | ⟨e, -⟩) <;> exact absurd e (by decide)), if_neg (by rw [h]; rintro ⟨e, -⟩; exact absurd e (by decide)), if_neg (by rw [h]; rintro ⟨e, -⟩; exact absurd e (by decide))]
theorem dec_add {c d : Clm} {i : Int} (h : c.verb = 4) (he : d.exp = 0) : stDecide c (stIt d i 0) 0 = some 2 := by
  unfold stDecide
  rw [if_pos (.inl ⟨h, alive_new d i he⟩)]
theorem dec_cas {c d : Clm} {i : Int} (h : c.verb = 6) (he : d.exp = 0) : stDecide c (stIt d i 0) 0 = if i = c.id then none else some 3 := by
  unfold stDecide
  rw [if_neg (by rw [h]; rintro (⟨e, -⟩ | ⟨e, -⟩) <;> exact absurd e (by decide)), if_neg (by rw [alive_new d i he]; rintro ⟨-, e⟩; exact absurd e (by decide))]
  by_cases g : i = c.id
  · rw [if_pos g, if_neg (by rintro ⟨-, e⟩; exact e g)]
  · rw [if_neg g, if_pos ⟨h, g⟩]
end Go.Proofs.YthpedifjclofoaaGreat
