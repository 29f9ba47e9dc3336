/- Layers 16, 17, plain: what a Way and Hops keep with each step. Layer 18, plain: what a Room keeps with each step. Layer 20, plain: what a Move keeps with each step. -/
import Derived.Test.YtfnmdafpdcgcmaaGreatZ3
import Derived.Test.YtfnmdafpdcgcmaaGreatZ4
import Derived.Test.YtfnmdafpdcgcmaaGreatZF
import Derived.Test.YtfnmdafpdcgcmaaGreatZH
namespace Go.Proofs.YtfnmdafpdcgcmaaGreat
set_option linter.unusedSimpArgs false
section
set_option linter.unusedVariables false
open Go.RowKit
def lsOk (l : List Int) : Prop := l ≠ [] ∧ l.length ≤ 5 ∧ ∀ a ∈ l, 0 ≤ a ∧ a < 18446744073709551616
theorem mk2_ok {p q : Spt} (hp : p.ok) (hq : q.ok) : lsOk (mk2 p q) := by
 have h := mk2_len p q
 exact ⟨fun e => by rw [e] at h; simp at h, by omega, mk2_bd hp hq⟩
theorem lsOk.tail {l : List Int} (h : lsOk l) (ht : l.tail ≠ []) : lsOk l.tail := ⟨ht, by have := h.2.1; rw [List.length_tail]; omega, fun a ha => h.2.2 a (List.mem_of_mem_tail ha)⟩
theorem lsOk.head {l : List Int} (h : lsOk l) : ∃ a r, l = a :: r ∧ 0 ≤ a ∧ a < 18446744073709551616 := by
 obtain ⟨h1, h2, h3⟩ := h
 cases l with
 | nil => exact absurd rfl h1
 | cons a r => exact ⟨a, r, rfl, h3 a (by simp)⟩
structure HoOk (z : Hom) : Prop where
 l0 : 0 ≤ z.ln
 l6 : z.ln ≤ 6
 way : ∀ p ∈ z.way, p.ok
 len : z.way.length ≤ 8192
 kk : -2 ≤ z.k ∧ z.k < z.way.length
 k : z.ln ≠ 0 → 0 ≤ z.k ∧ z.k + 1 < z.way.length
 z0 : z.ln = 0 → z.k ≤ -1
 t0 : 0 ≤ z.tag ∧ z.tag ≤ 255
 rf : -9223372036854775808 ≤ z.ref ∧ z.ref ≤ 9223372036854775807
 m1 : z.ln = 3 → lsOk z.m1
 o : 3 ≤ z.ln → z.ln ≤ 4 → z.o.ln < 3 ∧ 0 ≤ z.o.w ∧ z.o.w < 18446744073709551616
 o3 : z.ln = 3 → z.o = ⟨0, 0⟩
 u0 : 3 ≤ z.ln → z.ln ≤ 4 → z.u = ptNew z.tag z.ref
 u : z.ln = 5 → z.u.ln < 3 ∧ 0 ≤ z.u.w ∧ z.u.w < 18446744073709551616 ∧ 1 ≤ z.tag ∧ 1 ≤ z.ref
 m2 : 3 ≤ z.ln → lsOk z.m2
theorem hoAt_ok {l : List Spt} (h : ∀ p ∈ l, p.ok) {i : Int} (h0 : 0 ≤ i) (h1 : i < l.length) : (hoAt l i).ok := by
 unfold hoAt
 have hi : i.toNat < l.length := by omega
 rw [if_neg (by omega), List.getD, List.getElem?_eq_getElem hi]
 exact h _ (List.getElem_mem hi)
theorem HoOk.sok {z : Hom} (h : HoOk z) (hl : z.ln ≠ 0) : z.s.ok := hoAt_ok h.way (h.k hl).1 (by have := (h.k hl).2; omega)
theorem HoOk.tok {z : Hom} (h : HoOk z) (hl : z.ln ≠ 0) : z.t.ok := hoAt_ok h.way (by have := (h.k hl).1; omega) (h.k hl).2
theorem ptNew_cases (tg rf : Int) : (ptNew tg rf = ⟨0, 0⟩ ∧ 1 ≤ tg ∧ 1 ≤ rf) ∨ (ptNew tg rf = ⟨3, 0⟩) := by
 unfold ptNew
 split
 · exact .inl ⟨rfl, by omega, by omega⟩
 · exact .inr rfl
theorem hoNew_ok {l : List Spt} (h : ∀ p ∈ l, p.ok) (hl : l.length ≤ 8192) : HoOk (hoNew l) := by
 unfold hoNew
 by_cases c : 2 ≤ l.length
 · rw [if_pos c]
   exact ⟨by dsimp only; omega, by dsimp only; omega, h, hl, by dsimp only; omega, fun _ => (by dsimp only; omega), fun g => absurd g (by dsimp only; omega), by dsimp only; omega, by dsimp only; omega, fun g => absurd g (by dsimp only; omega), fun g => absurd g (by dsimp only; omega), fun g => absurd g (by dsimp only; omega), fun g => absurd g (by dsimp only; omega), fun g => absurd g (by dsimp only; omega), fun g => absurd g (by dsimp only; omega)⟩
 · rw [if_neg c]
   exact ⟨by dsimp only; omega, by dsimp only; omega, h, hl, by dsimp only; omega, fun g => absurd rfl g, fun _ => (by dsimp only; omega), by dsimp only; omega, by dsimp only; omega, fun g => absurd g (by dsimp only; omega), fun g => absurd g (by dsimp only; omega), fun g => absurd g (by dsimp only; omega), fun g => absurd g (by dsimp only; omega), fun g => absurd g (by dsimp only; omega), fun g => absurd g (by dsimp only; omega)⟩
theorem hoStep_0 (s : AW) (z : Hom) (h : z.ln = 0) : hoStep (s, z) = (s, z) := by
 unfold hoStep; dsimp only; rw [if_neg (by omega), if_neg (by omega), if_neg (by omega), if_neg (by omega), if_neg (by omega), if_neg (by omega)]
theorem hoStep_1 (s : AW) (z : Hom) (h : z.ln = 1) : hoStep (s, z) = (awLoad z.s.tags s, ⟨2, z.k, z.way, twTag (s.M z.s.tags) z.s.s, z.ref, z.m1, z.o, z.u, z.m2⟩) := by
 unfold hoStep; dsimp only; rw [if_pos h]
theorem hoStep_2 (s : AW) (z : Hom) (h : z.ln = 2) : hoStep (s, z) = (awLoad z.s.item s, ⟨3, z.k, z.way, z.tag, wrap64 (s.M z.s.item), mk2 z.s z.t, ⟨0, 0⟩, ptNew z.tag (wrap64 (s.M z.s.item)), mk2 z.s z.t⟩) := by
 unfold hoStep; dsimp only; rw [if_neg (by omega), if_pos h]
theorem hoStep_3 (s : AW) (z : Hom) (h : z.ln = 3) : hoStep (s, z) = (awAdd (z.m1.headD 0) 1 s, ⟨if z.m1.tail = [] then 4 else 3, z.k, z.way, z.tag, z.ref, z.m1.tail, z.o, z.u, z.m2⟩) := by
 unfold hoStep; dsimp only; rw [if_neg (by omega), if_neg (by omega), if_pos h]
 unfold hoOn; dsimp only
 by_cases c : z.m1.tail = []
 · rw [if_pos ⟨rfl, c⟩, if_pos c]
 · rw [if_neg (fun g => c g.2), if_neg (by omega), if_neg (by omega), if_neg (by omega), if_neg c]
theorem hoStep_4 (s : AW) (z : Hom) (h : z.ln = 4) : hoStep (s, z) = ((outStep z.s s z.o).1, ⟨if otOver (outStep z.s s z.o).2 = true then (if otOver z.u = true then 6 else 5) else 4, z.k, z.way, z.tag, z.ref, z.m1, (outStep z.s s z.o).2, z.u, z.m2⟩) := by
 unfold hoStep; dsimp only; rw [if_neg (by omega), if_neg (by omega), if_neg (by omega), if_pos h]
 unfold hoOn; dsimp only
 by_cases c : otOver (outStep z.s s z.o).2 = true
 · rw [if_neg (by omega), if_pos ⟨rfl, c⟩, if_pos c]
 · rw [if_neg (by omega), if_neg (fun g => c g.2), if_neg (by omega), if_neg (by omega), if_neg c]
theorem hoStep_5 (s : AW) (z : Hom) (h : z.ln = 5) : hoStep (s, z) = ((putStep z.t z.tag z.ref s z.u).1, ⟨if otOver (putStep z.t z.tag z.ref s z.u).2 = true then 6 else 5, z.k, z.way, z.tag, z.ref, z.m1, z.o, (putStep z.t z.tag z.ref s z.u).2, z.m2⟩) := by
 unfold hoStep; dsimp only; rw [if_neg (by omega), if_neg (by omega), if_neg (by omega), if_neg (by omega), if_pos h]
 unfold hoOn; dsimp only
 by_cases c : otOver (putStep z.t z.tag z.ref s z.u).2 = true
 · rw [if_neg (by omega), if_neg (by omega), if_pos ⟨rfl, c⟩, if_pos c]
 · rw [if_neg (by omega), if_neg (by omega), if_neg (fun g => c g.2), if_neg (by omega), if_neg c]
theorem hoStep_6 (s : AW) (z : Hom) (h : z.ln = 6) : hoStep (s, z) = (awAdd (z.m2.headD 0) 1 s, if z.m2.tail = [] then ⟨if z.k - 1 < 0 then 0 else 1, z.k - 1, z.way, z.tag, z.ref, z.m1, z.o, z.u, z.m2.tail⟩ else ⟨6, z.k, z.way, z.tag, z.ref, z.m1, z.o, z.u, z.m2.tail⟩) := by
 unfold hoStep; dsimp only; rw [if_neg (by omega), if_neg (by omega), if_neg (by omega), if_neg (by omega), if_neg (by omega), if_pos h]
 unfold hoOn; dsimp only
 by_cases c : z.m2.tail = []
 · rw [if_neg (by omega), if_neg (by omega), if_neg (by omega), if_pos ⟨rfl, c⟩, if_pos c]
 · rw [if_neg (by omega), if_neg (by omega), if_neg (by omega), if_neg (fun g => c g.2), if_neg c]
theorem HoOk.step {z : Hom} {s : AW} (h : HoOk z) (hb : Bd s.M) : HoOk (hoStep (s, z)).2 := by
 have h0 := h.l0
 have h6 := h.l6
 have hc : z.ln = 0 ∨ z.ln = 1 ∨ z.ln = 2 ∨ z.ln = 3 ∨ z.ln = 4 ∨ z.ln = 5 ∨ z.ln = 6 := by omega
 rcases hc with e | e | e | e | e | e | e
 · rw [hoStep_0 s z e]; exact h
 · rw [hoStep_1 s z e]
   have := h.k (by omega)
   exact ⟨by dsimp only; omega, by dsimp only; omega, h.way, h.len, h.kk, fun _ => this, fun g => absurd g (by dsimp only; omega), twTag_bd _ _, h.rf, fun g => absurd g (by dsimp only; omega), fun g => absurd g (by dsimp only; omega), fun g => absurd g (by dsimp only; omega), fun g => absurd g (by dsimp only; omega), fun g => absurd g (by dsimp only; omega), fun g => absurd g (by dsimp only; omega)⟩
 · rw [hoStep_2 s z e]
   have hs := h.sok (by omega)
   have ht := h.tok (by omega)
   exact ⟨by dsimp only; omega, by dsimp only; omega, h.way, h.len, h.kk, fun _ => h.k (by omega), fun g => absurd g (by dsimp only; omega), h.t0, wrap64_bd _, fun _ => mk2_ok hs ht, fun _ _ => by dsimp only; omega, fun _ => rfl, fun _ _ => rfl, fun g => absurd g (by dsimp only; omega), fun _ => mk2_ok hs ht⟩
 · rw [hoStep_3 s z e]
   by_cases c : z.m1.tail = []
   · rw [if_pos c]
     exact ⟨by dsimp only; omega, by dsimp only; omega, h.way, h.len, h.kk, fun _ => h.k (by omega), fun g => absurd g (by dsimp only; omega), h.t0, h.rf, fun g => absurd g (by dsimp only; omega), fun _ _ => h.o (by omega) (by omega), fun g => absurd g (by dsimp only; omega), fun _ _ => h.u0 (by omega) (by omega), fun g => absurd g (by dsimp only; omega), fun _ => h.m2 (by omega)⟩
   · rw [if_neg c]
     exact ⟨by dsimp only; omega, by dsimp only; omega, h.way, h.len, h.kk, fun _ => h.k (by omega), fun g => absurd g (by dsimp only; omega), h.t0, h.rf, fun _ => (h.m1 e).tail c, fun _ _ => h.o (by omega) (by omega), fun _ => h.o3 e, fun _ _ => h.u0 (by omega) (by omega), fun g => absurd g (by dsimp only; omega), fun _ => h.m2 (by omega)⟩
 · rw [hoStep_4 s z e]
   obtain ⟨ho, hw0, hw1⟩ := h.o (by omega) (by omega)
   have hu := h.u0 (by omega) (by omega)
   have hln := outStep_ln z.s s z.o ho
   have hw := outStep_w (p := z.s) (s := s) (o := z.o) hb hw0 hw1
   by_cases c : otOver (outStep z.s s z.o).2 = true
   · rw [if_pos c]
     by_cases cu : otOver z.u = true
     · rw [if_pos cu]
       exact ⟨by dsimp only; omega, by dsimp only; omega, h.way, h.len, h.kk, fun _ => h.k (by omega), fun g => absurd g (by dsimp only; omega), h.t0, h.rf, fun g => absurd g (by dsimp only; omega), fun _ g => absurd g (by dsimp only; omega), fun g => absurd g (by dsimp only; omega), fun _ g => absurd g (by dsimp only; omega), fun g => absurd g (by dsimp only; omega), fun _ => h.m2 (by omega)⟩
     · rw [if_neg cu]
       refine ⟨by dsimp only; omega, by dsimp only; omega, h.way, h.len, h.kk, fun _ => h.k (by omega), fun g => absurd g (by dsimp only; omega), h.t0, h.rf, fun g => absurd g (by dsimp only; omega), fun _ g => absurd g (by dsimp only; omega), fun g => absurd g (by dsimp only; omega), fun _ g => absurd g (by dsimp only; omega), fun _ => ?_, fun _ => h.m2 (by omega)⟩
       dsimp only
       rcases ptNew_cases z.tag z.ref with g | g
       · rw [hu, g.1]; exact ⟨by decide, by decide, by decide, g.2.1, g.2.2⟩
       · rw [hu, g] at cu; exact absurd rfl cu
   · rw [if_neg c]
     have hl3 : (outStep z.s s z.o).2.ln < 3 := by
      rw [otOver_3 (by omega)] at c
      simp at c
      omega
     exact ⟨by dsimp only; omega, by dsimp only; omega, h.way, h.len, h.kk, fun _ => h.k (by omega), fun g => absurd g (by dsimp only; omega), h.t0, h.rf, fun g => absurd g (by dsimp only; omega), fun _ _ => ⟨hl3, hw⟩, fun g => absurd g (by dsimp only; omega), fun _ _ => hu, fun g => absurd g (by dsimp only; omega), fun _ => h.m2 (by omega)⟩
 · rw [hoStep_5 s z e]
   obtain ⟨hu, hw0, hw1, ht, hr⟩ := h.u e
   have hln := putStep_ln z.t z.tag z.ref s z.u hu
   have hw := putStep_w (p := z.t) (tg := z.tag) (rf := z.ref) (s := s) (o := z.u) hb hw0 hw1
   by_cases c : otOver (putStep z.t z.tag z.ref s z.u).2 = true
   · rw [if_pos c]
     exact ⟨by dsimp only; omega, by dsimp only; omega, h.way, h.len, h.kk, fun _ => h.k (by omega), fun g => absurd g (by dsimp only; omega), h.t0, h.rf, fun g => absurd g (by dsimp only; omega), fun _ g => absurd g (by dsimp only; omega), fun g => absurd g (by dsimp only; omega), fun _ g => absurd g (by dsimp only; omega), fun g => absurd g (by dsimp only; omega), fun _ => h.m2 (by omega)⟩
   · rw [if_neg c]
     have hl3 : (putStep z.t z.tag z.ref s z.u).2.ln < 3 := by
      rw [otOver_3 (by omega)] at c
      simp at c
      omega
     exact ⟨by dsimp only; omega, by dsimp only; omega, h.way, h.len, h.kk, fun _ => h.k (by omega), fun g => absurd g (by dsimp only; omega), h.t0, h.rf, fun g => absurd g (by dsimp only; omega), fun _ g => absurd g (by dsimp only; omega), fun g => absurd g (by dsimp only; omega), fun _ g => absurd g (by dsimp only; omega), fun _ => ⟨hl3, hw.1, hw.2, ht, hr⟩, fun _ => h.m2 (by omega)⟩
 · rw [hoStep_6 s z e]
   have hk := h.k (by omega)
   by_cases c : z.m2.tail = []
   · rw [if_pos c]
     by_cases c0 : z.k - 1 < 0
     · rw [if_pos c0]
       exact ⟨by dsimp only; omega, by dsimp only; omega, h.way, h.len, by dsimp only; omega, fun g => absurd rfl g, fun _ => (by dsimp only; omega), h.t0, h.rf, fun g => absurd g (by dsimp only; omega), fun g => absurd g (by dsimp only; omega), fun g => absurd g (by dsimp only; omega), fun g => absurd g (by dsimp only; omega), fun g => absurd g (by dsimp only; omega), fun g => absurd g (by dsimp only; omega)⟩
     · rw [if_neg c0]
       exact ⟨by dsimp only; omega, by dsimp only; omega, h.way, h.len, by dsimp only; omega, fun _ => (by dsimp only; omega), fun g => absurd g (by dsimp only; omega), h.t0, h.rf, fun g => absurd g (by dsimp only; omega), fun g => absurd g (by dsimp only; omega), fun g => absurd g (by dsimp only; omega), fun g => absurd g (by dsimp only; omega), fun g => absurd g (by dsimp only; omega), fun g => absurd g (by dsimp only; omega)⟩
   · rw [if_neg c]
     exact ⟨by dsimp only; omega, by dsimp only; omega, h.way, h.len, h.kk, fun _ => hk, fun g => absurd g (by dsimp only; omega), h.t0, h.rf, fun g => absurd g (by dsimp only; omega), fun _ g => absurd g (by dsimp only; omega), fun g => absurd g (by dsimp only; omega), fun _ g => absurd g (by dsimp only; omega), fun g => absurd g (by dsimp only; omega), fun _ => (h.m2 (by omega)).tail c⟩
theorem wyPath_ok {b : Int} {l : List Wnd} (h : WyL b l) (b0 : 1 ≤ b) (b1 : b ≤ 12) : ∀ (n : Nat) (i s : Int) (acc : List Spt), (0 ≤ i → 0 ≤ s ∧ s ≤ 3) → (∀ p ∈ acc, p.ok) → (∀ p ∈ wyPath b l n i s acc, p.ok) ∧ (wyPath b l n i s acc).length ≤ acc.length + n := by
 intro n
 induction n with
 | zero => intro i s acc _ ha; exact ⟨ha, by unfold wyPath; omega⟩
 | succ n ih =>
   intro i s acc hs ha
   unfold wyPath
   by_cases c : i < 0
   · rw [if_pos c]; exact ⟨ha, by omega⟩
   · rw [if_neg c]
     cases hl : l[i.toNat]? with
     | none => exact ⟨ha, by dsimp only; omega⟩
     | some m =>
       have hm := h.q m (List.mem_of_getElem? hl)
       have hf := h.fr _ _ hl
       have hs2 := hs (by omega)
       have h2 := ih m.fr m.sl (⟨b, m.q, s⟩ :: acc) (fun _ => hf.2.2) (fun p hp => by
        rcases List.mem_cons.1 hp with g | g
        · subst g; exact ⟨b0, b1, hm.1, hm.2, hs2.1, hs2.2⟩
        · exact ha p g)
       exact ⟨h2.1, by have := h2.2; rw [List.length_cons] at this; dsimp only; omega⟩
theorem WyGo.step {b : Int} {s : AW} {z : Wym} (h : WyGo b z) : ((wyStep (s, z)).2.ln = 0 ∧ (∀ p ∈ (wyStep (s, z)).2.way, p.ok) ∧ (wyStep (s, z)).2.way.length ≤ 4097) ∨ ((wyStep (s, z)).2.ln = 1 ∧ WyGo b (wyStep (s, z)).2) := by
 obtain ⟨ln, l, i, b', mo, way⟩ := z
 obtain ⟨g1, g2, g3, b0, b1, hl, hi⟩ := h
 dsimp only at g1 g2 g3 hl hi
 subst g1 g2 g3
 have hlen := hl.len
 unfold wyStep
 dsimp only
 rw [if_neg (by omega)]
 have hq : 0 ≤ wyQ ⟨1, l, i, b', mo, []⟩ ∧ wyQ ⟨1, l, i, b', mo, []⟩ < fnvSize b' := by
  unfold wyQ; dsimp only
  rw [List.getElem?_eq_getElem hi]
  exact hl.q _ (List.getElem_mem _)
 obtain ⟨q, hqe⟩ : ∃ q, q = wyQ ⟨1, l, i, b', mo, []⟩ := ⟨_, rfl⟩
 obtain ⟨tg, htg⟩ : ∃ tg, tg = wyTg s ⟨1, l, i, b', mo, []⟩ := ⟨_, rfl⟩
 rw [← hqe] at hq ⊢
 rw [← htg]
 by_cases hf : 0 ≤ twFree tg
 · rw [if_pos hf]
   dsimp only
   have hfb := twFree_bd tg
   have h2 := wyPath_ok hl b0 b1 (i + 1) (i : Int) (twFree tg) [] (fun _ => by omega) (fun p hp => by cases hp)
   exact .inl ⟨rfl, h2.1, by have := h2.2; simp only [List.length_nil] at this; omega⟩
 · rw [if_neg hf]
   dsimp only
   have hg := hl.grow mo i q tg hi hq (by omega) 4 (Nat.le_refl _)
   by_cases c : i + 1 = (wyGrow b' mo i q tg 4 l).length
   · rw [if_pos c]
     exact .inl ⟨rfl, fun p hp => (by cases hp), by simp⟩
   · rw [if_neg c]
     have hgl := wyGrow_len b' mo i q tg 4 l
     exact .inr ⟨rfl, ⟨rfl, rfl, rfl, b0, b1, hg, by dsimp only; omega⟩⟩
theorem wyNew_go {b a c mo : Int} (b0 : 1 ≤ b) (b1 : b ≤ 12) (ha : 0 ≤ a ∧ a < fnvSize b) (hc : 0 ≤ c ∧ c < fnvSize b) : WyGo b (wyNew b a c mo) := by
 unfold wyNew
 rw [if_pos ⟨ha.1, ha.2, hc.1, hc.2⟩]
 have h1 : WyL b [⟨a, -1, 0⟩] := ⟨by simp, fun n hn => by rw [List.mem_singleton.1 hn]; exact ha, fun j n hj => by
  have hj0 := (List.getElem?_eq_some_iff.1 hj).1
  simp at hj0
  subst hj0
  simp at hj
  subst hj
  dsimp only; omega⟩
 have hlen := wyNode_len [⟨a, -1, 0⟩] ⟨c, -1, 0⟩
 exact ⟨rfl, rfl, rfl, b0, b1, h1.node _ hc (by dsimp only; simp) (by dsimp only; omega), by have := hlen.1; simp at this; dsimp only; omega⟩
end
section
set_option linter.unusedVariables false
open Go.RowKit
structure RmOk (z : Rmm) : Prop where
 l0 : 0 ≤ z.ln
 l4 : z.ln ≤ 4
 b : z.ln ≠ 0 → 1 ≤ z.b ∧ z.b ≤ 12
 a : z.ln ≠ 0 → 0 ≤ z.a ∧ z.a < fnvSize z.b
 c : z.ln ≠ 0 → 0 ≤ z.c ∧ z.c < fnvSize z.b
 y : z.ln = 3 → WyGo z.b z.wy
 h : z.ln = 4 → HoOk z.ho ∧ z.ho.ln ≠ 0
 p : z.ln = 4 ∨ z.is = true → z.p.ok
 is : z.ln ≠ 0 → z.is = false
theorem is_abs {ln : Int} {is : Bool} {P : Prop} (h : ln = 4 ∨ is = true) (h4 : ln ≠ 4) (hi : is = false) : P := by
 rcases h with g | g
 · exact absurd g h4
 · rw [hi] at g; cases g
theorem RmOk.go {f : Cf} {z : Rmm} (h : RmOk z) (hl : z.ln ≠ 0) : RmGo f z := ⟨h.b hl, h.a hl, h.c hl, h.y⟩
theorem rmNew_ok {b h : Int} (b0 : 1 ≤ b) (b1 : b ≤ 12) (h0 : 0 ≤ h) (h1 : h < 18446744073709551616) : RmOk (rmNew b h) ∧ (rmNew b h).ln = 1 := by
 have htg := fnvTag_bd h h0 h1
 have hbk := fnvBucket_bd (h := h) b0 b1
 have hot := fnvOther_bd (b := b) ⟨hbk.1, hbk.2, htg.1, htg.2⟩
 unfold rmNew
 rw [if_pos ⟨b0, b1⟩]
 exact ⟨⟨by dsimp only; omega, by dsimp only; omega, fun _ => ⟨b0, b1⟩, fun _ => hbk, fun _ => hot, fun g => absurd g (by dsimp only; omega), fun g => absurd g (by dsimp only; omega), fun g => by rcases g with g | g <;> simp at g, fun _ => rfl⟩, rfl⟩
theorem rmStep_1 (mo : Int) (s : AW) (z : Rmm) (h : z.ln = 1) : rmStep mo (s, z) = (awLoad (plTags z.b z.a) s, if 0 ≤ twFree (s.M (plTags z.b z.a)) then rmIn z ⟨z.b, z.a, twFree (s.M (plTags z.b z.a))⟩ else if z.c = z.a then rmSearch mo z else ⟨2, z.b, z.a, z.c, z.wy, z.ho, z.p, z.is⟩) := by
 unfold rmStep rmTg; dsimp only; rw [if_pos h]
theorem rmStep_2 (mo : Int) (s : AW) (z : Rmm) (h : z.ln = 2) : rmStep mo (s, z) = (awLoad (plTags z.b z.c) s, if 0 ≤ twFree (s.M (plTags z.b z.c)) then rmIn z ⟨z.b, z.c, twFree (s.M (plTags z.b z.c))⟩ else rmSearch mo z) := by
 unfold rmStep rmTg; dsimp only; rw [if_neg (by omega), if_pos h]
theorem rmStep_3 (mo : Int) (s : AW) (z : Rmm) (h : z.ln = 3) : rmStep mo (s, z) = if (wyStep (s, z.wy)).2.ln = 0 then (if (wyStep (s, z.wy)).2.way = [] then awNote 3 0 0 0 0 0 (wyStep (s, z.wy)).1 else (wyStep (s, z.wy)).1, rmFound ⟨3, z.b, z.a, z.c, (wyStep (s, z.wy)).2, z.ho, z.p, z.is⟩) else ((wyStep (s, z.wy)).1, ⟨3, z.b, z.a, z.c, (wyStep (s, z.wy)).2, z.ho, z.p, z.is⟩) := by
 unfold rmStep; dsimp only; rw [if_neg (by omega), if_neg (by omega), if_pos h]
theorem rmStep_4 (mo : Int) (s : AW) (z : Rmm) (h : z.ln = 4) : rmStep mo (s, z) = ((hoStep (s, z.ho)).1, ⟨if (hoStep (s, z.ho)).2.ln = 0 then 0 else 4, z.b, z.a, z.c, z.wy, (hoStep (s, z.ho)).2, z.p, if (hoStep (s, z.ho)).2.ln = 0 then true else z.is⟩) := by
 unfold rmStep; dsimp only; rw [if_neg (by omega), if_neg (by omega), if_neg (by omega), if_pos h]
theorem rmIn_ok {z : Rmm} {p : Spt} (hp : p.ok) : RmOk (rmIn z p) :=
 ⟨by unfold rmIn; dsimp only; omega, by unfold rmIn; dsimp only; omega, fun g => absurd rfl g, fun g => absurd rfl g, fun g => absurd rfl g, fun g => absurd g (by unfold rmIn; dsimp only; omega), fun g => absurd g (by unfold rmIn; dsimp only; omega), fun _ => hp, fun g => absurd rfl g⟩
theorem rmSearch_ok {z : Rmm} (mo : Int) (h : RmOk z) (hl : z.ln ≠ 0) : RmOk (rmSearch mo z) :=
 ⟨by unfold rmSearch; dsimp only; omega, by unfold rmSearch; dsimp only; omega, fun _ => h.b hl, fun _ => h.a hl, fun _ => h.c hl, fun _ => wyNew_go (h.b hl).1 (h.b hl).2 (h.a hl) (h.c hl), fun g => absurd g (by unfold rmSearch; dsimp only; omega), fun g => is_abs g (by unfold rmSearch; dsimp only; omega) (h.is hl), fun _ => h.is hl⟩
theorem RmOk.step {z : Rmm} {s : AW} (mo : Int) (h : RmOk z) (hb : Bd s.M) : RmOk (rmStep mo (s, z)).2 := by
 have h0 := h.l0
 have h4 := h.l4
 have hc : z.ln = 0 ∨ z.ln = 1 ∨ z.ln = 2 ∨ z.ln = 3 ∨ z.ln = 4 := by omega
 rcases hc with e | e | e | e | e
 · have : rmStep mo (s, z) = (s, z) := by unfold rmStep; dsimp only; rw [if_neg (by omega), if_neg (by omega), if_neg (by omega), if_neg (by omega)]
   rw [this]; exact h
 · rw [rmStep_1 mo s z e]
   dsimp only
   have hl : z.ln ≠ 0 := by omega
   have hfb := twFree_bd (s.M (plTags z.b z.a))
   split
   · rename_i g
     exact rmIn_ok ⟨(h.b hl).1, (h.b hl).2, (h.a hl).1, (h.a hl).2, g, hfb.2⟩
   · split
     · exact rmSearch_ok mo h hl
     · exact ⟨by dsimp only; omega, by dsimp only; omega, fun _ => h.b hl, fun _ => h.a hl, fun _ => h.c hl, fun g => absurd g (by dsimp only; omega), fun g => absurd g (by dsimp only; omega), fun g => is_abs g (by dsimp only; omega) (h.is hl), fun _ => h.is hl⟩
 · rw [rmStep_2 mo s z e]
   dsimp only
   have hl : z.ln ≠ 0 := by omega
   have hfb := twFree_bd (s.M (plTags z.b z.c))
   split
   · rename_i g
     exact rmIn_ok ⟨(h.b hl).1, (h.b hl).2, (h.c hl).1, (h.c hl).2, g, hfb.2⟩
   · exact rmSearch_ok mo h hl
 · rw [rmStep_3 mo s z e]
   have hl : z.ln ≠ 0 := by omega
   have hi := h.is hl
   rcases (h.y e).step (s := s) with ⟨g1, g2, g3⟩ | ⟨g1, g2⟩
   · rw [if_pos g1]
     dsimp only
     unfold rmFound
     dsimp only
     cases hw : (wyStep (s, z.wy)).2.way with
     | nil => exact ⟨by dsimp only; omega, by dsimp only; omega, fun g => absurd rfl g, fun g => absurd rfl g, fun g => absurd rfl g, fun g => absurd g (by dsimp only; omega), fun g => absurd g (by dsimp only; omega), fun g => is_abs g (by dsimp only; omega) (h.is hl), fun g => absurd rfl g⟩
     | cons p l =>
       rw [hw] at g2 g3
       dsimp only
       have hho := hoNew_ok g2 (by omega)
       have hpk := g2 p (by simp)
       by_cases c2 : 2 ≤ (p :: l).length
       · rw [if_pos c2, if_pos c2]
         have hln : (hoNew (p :: l)).ln = 1 := by unfold hoNew; dsimp only; rw [if_pos c2]
         exact ⟨by dsimp only; omega, by dsimp only; omega, fun _ => h.b hl, fun _ => h.a hl, fun _ => h.c hl, fun g => absurd g (by dsimp only; omega), fun _ => ⟨hho, by dsimp only; omega⟩, fun _ => hpk, fun _ => hi⟩
       · rw [if_neg c2, if_neg c2]
         exact ⟨by dsimp only; omega, by dsimp only; omega, fun g => absurd rfl g, fun g => absurd rfl g, fun g => absurd rfl g, fun g => absurd g (by dsimp only; omega), fun g => absurd g (by dsimp only; omega), fun _ => hpk, fun g => absurd rfl g⟩
   · rw [if_neg (by omega)]
     exact ⟨by dsimp only; omega, by dsimp only; omega, fun _ => h.b hl, fun _ => h.a hl, fun _ => h.c hl, fun _ => g2, fun g => absurd g (by dsimp only; omega), fun g => is_abs g (by dsimp only; omega) (h.is hl), fun _ => hi⟩
 · rw [rmStep_4 mo s z e]
   have hl : z.ln ≠ 0 := by omega
   have hi := h.is hl
   have hh := (h.h e).1.step (s := s) hb
   have hpk := h.p (.inl e)
   by_cases c0 : (hoStep (s, z.ho)).2.ln = 0
   · rw [if_pos c0, if_pos c0]
     exact ⟨by dsimp only; omega, by dsimp only; omega, fun g => absurd rfl g, fun g => absurd rfl g, fun g => absurd rfl g, fun g => absurd g (by dsimp only; omega), fun g => absurd g (by dsimp only; omega), fun _ => hpk, fun g => absurd rfl g⟩
   · rw [if_neg c0, if_neg c0]
     exact ⟨by dsimp only; omega, by dsimp only; omega, fun _ => h.b hl, fun _ => h.a hl, fun _ => h.c hl, fun g => absurd g (by dsimp only; omega), fun _ => ⟨hh, c0⟩, fun _ => hpk, fun _ => hi⟩
end
section
set_option linter.unusedVariables false
open Go.RowKit
structure MvOk (z : Mvm) : Prop where
 l0 : 0 ≤ z.ln
 l11 : z.ln ≤ 11
 now : z.ln ≠ 0 → 1 ≤ z.now ∧ z.now ≤ 12
 p : z.ln ≠ 0 → z.p.ok
 t0 : 0 ≤ z.tag ∧ z.tag ≤ 255
 rf : -9223372036854775808 ≤ z.ref ∧ z.ref ≤ 9223372036854775807
 r : z.ln = 3 → RmOk z.rm ∧ z.rm.ln ≠ 0
 d : 4 ≤ z.ln → z.ln ≤ 7 → z.d.ok
 m : z.ln = 4 ∨ z.ln = 7 → lsOk z.m
 m1 : z.ln = 8 ∨ z.ln = 10 → z.m = [z.p.ver]
 o0 : z.ln = 4 ∨ z.ln = 8 → z.o = ⟨0, 0⟩
 o : z.ln = 5 ∨ z.ln = 9 → z.o.ln < 3 ∧ 0 ≤ z.o.w ∧ z.o.w < 18446744073709551616
 u0 : z.ln = 4 ∨ z.ln = 5 → z.u = ptNew z.tag z.ref
 u : z.ln = 6 → z.u.ln < 3 ∧ 0 ≤ z.u.w ∧ z.u.w < 18446744073709551616 ∧ 1 ≤ z.tag ∧ 1 ≤ z.ref
theorem MvOk.at {z : Mvm} (l0 : 0 ≤ z.ln) (l11 : z.ln ≤ 11) (now : z.ln ≠ 0 → 1 ≤ z.now ∧ z.now ≤ 12) (p : z.ln ≠ 0 → z.p.ok) (t0 : 0 ≤ z.tag ∧ z.tag ≤ 255) (rf : -9223372036854775808 ≤ z.ref ∧ z.ref ≤ 9223372036854775807)
 (h : z.ln = 0 ∨ z.ln = 1 ∨ z.ln = 2 ∨ z.ln = 11) : MvOk z :=
 ⟨l0, l11, now, p, t0, rf, fun g => absurd g (by omega), fun g g2 => absurd h (by omega), fun g => absurd h (by omega), fun g => absurd h (by omega), fun g => absurd h (by omega), fun g => absurd h (by omega), fun g => absurd h (by omega), fun g => absurd h (by omega)⟩
theorem mvStep_0 (mo : Int) (s : AW) (z : Mvm) (h : z.ln = 0) : mvStep mo (s, z) = (s, z) := by
 unfold mvStep; dsimp only; rw [if_neg (by omega), if_neg (by omega), if_neg (by omega), if_neg (by omega), if_neg (by omega), if_neg (by omega), if_neg (by omega), if_neg (by omega), if_neg (by omega), if_neg (by omega), if_neg (by omega)]
theorem mvStep_3 (mo : Int) (s : AW) (z : Mvm) (h : z.ln = 3) : mvStep mo (s, z) = ((rmStep mo (s, z.rm)).1, if (rmStep mo (s, z.rm)).2.ln = 0 then (if (rmStep mo (s, z.rm)).2.is = true then ⟨4, z.lost, z.now, z.p, z.tag, z.ref, (rmStep mo (s, z.rm)).2, (rmStep mo (s, z.rm)).2.p, mk2 z.p (rmStep mo (s, z.rm)).2.p, ⟨0, 0⟩, ptNew z.tag z.ref⟩ else ⟨8, z.lost, z.now, z.p, z.tag, z.ref, (rmStep mo (s, z.rm)).2, sp20, [z.p.ver], ⟨0, 0⟩, z.u⟩) else ⟨3, z.lost, z.now, z.p, z.tag, z.ref, (rmStep mo (s, z.rm)).2, z.d, z.m, z.o, z.u⟩) := by
 unfold mvStep; dsimp only; rw [if_neg (by omega), if_neg (by omega), if_pos h]
theorem mvStep_8 (mo : Int) (s : AW) (z : Mvm) (h : z.ln = 8) : mvStep mo (s, z) = (awAdd z.p.ver 1 s, ⟨9, z.lost, z.now, z.p, z.tag, z.ref, z.rm, z.d, [], ⟨0, 0⟩, z.u⟩) := by
 unfold mvStep; dsimp only; rw [if_neg (by omega), if_neg (by omega), if_neg (by omega), if_neg (by omega), if_neg (by omega), if_neg (by omega), if_neg (by omega), if_pos h]
theorem mvStep_9 (mo : Int) (s : AW) (z : Mvm) (h : z.ln = 9) : mvStep mo (s, z) = (if z.o.ln = 1 then awNote 1 z.ref z.p.b z.p.q z.p.s 0 (outStep z.p s z.o).1 else (outStep z.p s z.o).1, ⟨if z.o.ln = 2 then 10 else 9, z.lost, z.now, z.p, z.tag, z.ref, z.rm, z.d, if z.o.ln = 2 then [z.p.ver] else [], (outStep z.p s z.o).2, z.u⟩) := by
 unfold mvStep; dsimp only; rw [if_neg (by omega), if_neg (by omega), if_neg (by omega), if_neg (by omega), if_neg (by omega), if_neg (by omega), if_neg (by omega), if_neg (by omega), if_pos h]
theorem mvStep_10 (mo : Int) (s : AW) (z : Mvm) (h : z.ln = 10) : mvStep mo (s, z) = (awAdd z.p.ver 1 s, ⟨11, z.lost, z.now, z.p, z.tag, z.ref, z.rm, z.d, [], z.o, z.u⟩) := by
 unfold mvStep; dsimp only; rw [if_neg (by omega), if_neg (by omega), if_neg (by omega), if_neg (by omega), if_neg (by omega), if_neg (by omega), if_neg (by omega), if_neg (by omega), if_neg (by omega), if_pos h]
theorem mvStep_11 (mo : Int) (s : AW) (z : Mvm) (h : z.ln = 11) : mvStep mo (s, z) = (awNote 2 z.ref z.p.b z.p.q z.p.s 0 (awAdd 6 18446744073709551615 s), mvNext ⟨11, z.lost + 1, z.now, z.p, z.tag, z.ref, z.rm, z.d, z.m, z.o, z.u⟩) := by
 unfold mvStep; dsimp only; rw [if_neg (by omega), if_neg (by omega), if_neg (by omega), if_neg (by omega), if_neg (by omega), if_neg (by omega), if_neg (by omega), if_neg (by omega), if_neg (by omega), if_neg (by omega), if_pos h]
theorem mvNext_ok {z : Mvm} (h : MvOk z) (hl : z.ln ≠ 0) : MvOk (mvNext z) := by
 have hp := h.p hl
 have hn := h.now hl
 have h3 := hp.s1
 have h0 := hp.s0
 have hln := mvNext_ln z
 refine .at (by omega) (by omega) (fun _ => hn) (fun g => ?_) h.t0 h.rf (by omega)
 have : z.p.s + 1 ≠ 4 := by
  intro e
  have : (mvNext z).ln = 0 := by unfold mvNext; dsimp only; rw [if_pos e]
  exact g this
 exact ⟨hp.b0, hp.b1, hp.q0, hp.q1, by unfold mvNext; dsimp only; omega, by unfold mvNext; dsimp only; omega⟩
theorem mvNew_ok (t q : Int) : MvOk (mvNew t q) := by
 have h1 := plOld_bd t
 have h2 := plNow_bd t
 unfold mvNew
 split
 · exact .at (by dsimp only; omega) (by dsimp only; omega) (fun g => absurd rfl g) (fun g => absurd rfl g) (by dsimp only; omega) (by dsimp only; omega) (by dsimp only; omega)
 · rename_i c
   exact .at (by dsimp only; omega) (by dsimp only; omega) (fun _ => by dsimp only; omega) (fun _ => ⟨h1.1, h1.2, by dsimp only; omega, by dsimp only; omega, by dsimp only; omega, by dsimp only; omega⟩) (by dsimp only; omega) (by dsimp only; omega) (by dsimp only; omega)
theorem mv7_ok {z : Mvm} (h : MvOk z) (h4 : 4 ≤ z.ln) (h7 : z.ln ≤ 7) : MvOk (mv7 z) := by
 have hp := h.p (by omega)
 have hd := h.d h4 h7
 exact ⟨by unfold mv7; dsimp only; omega, by unfold mv7; dsimp only; omega, fun _ => h.now (by omega), fun _ => hp, h.t0, h.rf, fun g => absurd g (by unfold mv7; dsimp only; omega), fun _ _ => hd, fun _ => mk2_ok hp hd, fun g => absurd g (by unfold mv7; dsimp only; omega), fun g => absurd g (by unfold mv7; dsimp only; omega), fun g => absurd g (by unfold mv7; dsimp only; omega), fun g => absurd g (by unfold mv7; dsimp only; omega), fun g => absurd g (by unfold mv7; dsimp only; omega)⟩
theorem MvOk.step {z : Mvm} {s : AW} (mo : Int) (h : MvOk z) (hb : Bd s.M) : MvOk (mvStep mo (s, z)).2 := by
 have h0 := h.l0
 have h11 := h.l11
 by_cases hz : z.ln = 0
 · rw [mvStep_0 mo s z hz]; exact h
 have hp := h.p hz
 have hn := h.now hz
 have hc : z.ln = 1 ∨ z.ln = 2 ∨ z.ln = 3 ∨ z.ln = 4 ∨ z.ln = 5 ∨ z.ln = 6 ∨ z.ln = 7 ∨ z.ln = 8 ∨ z.ln = 9 ∨ z.ln = 10 ∨ z.ln = 11 := by omega
 rcases hc with e | e | e | e | e | e | e | e | e | e | e
 · rw [mvStep_1 mo s z e]
   dsimp only
   split
   · refine mvNext_ok (.at (by dsimp only; omega) (by dsimp only; omega) (fun _ => hn) (fun _ => hp) (by dsimp only; omega) h.rf (by dsimp only; omega)) (by dsimp only; omega)
   · exact .at (by dsimp only; omega) (by dsimp only; omega) (fun _ => hn) (fun _ => hp) (twTag_bd _ _) h.rf (by dsimp only; omega)
 · rw [mvStep_2 mo s z e]
   have hh := fnvHash_bd (itKey s.it (wrap64 (s.M z.p.item)))
   have hr := rmNew_ok (b := z.now) (h := fnvHash (itKey s.it (wrap64 (s.M z.p.item)))) hn.1 hn.2 hh.1 hh.2
   exact ⟨by dsimp only; omega, by dsimp only; omega, fun _ => hn, fun _ => hp, h.t0, wrap64_bd _, fun _ => ⟨hr.1, by dsimp only; omega⟩, fun g => absurd g (by dsimp only; omega), fun g => absurd g (by dsimp only; omega), fun g => absurd g (by dsimp only; omega), fun g => absurd g (by dsimp only; omega), fun g => absurd g (by dsimp only; omega), fun g => absurd g (by dsimp only; omega), fun g => absurd g (by dsimp only; omega)⟩
 · rw [mvStep_3 mo s z e]
   dsimp only
   have hr := (h.r e).1.step (s := s) mo hb
   by_cases c : (rmStep mo (s, z.rm)).2.ln = 0
   · rw [if_pos c]
     by_cases c2 : (rmStep mo (s, z.rm)).2.is = true
     · rw [if_pos c2]
       have hd := hr.p (.inr c2)
       exact ⟨by dsimp only; omega, by dsimp only; omega, fun _ => hn, fun _ => hp, h.t0, h.rf, fun g => absurd g (by dsimp only; omega), fun _ _ => hd, fun _ => mk2_ok hp hd, fun g => absurd g (by dsimp only; omega), fun _ => rfl, fun g => absurd g (by dsimp only; omega), fun _ => rfl, fun g => absurd g (by dsimp only; omega)⟩
     · rw [if_neg c2]
       exact ⟨by dsimp only; omega, by dsimp only; omega, fun _ => hn, fun _ => hp, h.t0, h.rf, fun g => absurd g (by dsimp only; omega), fun _ g => absurd g (by dsimp only; omega), fun g => absurd g (by dsimp only; omega), fun _ => rfl, fun _ => rfl, fun g => absurd g (by dsimp only; omega), fun g => absurd g (by dsimp only; omega), fun g => absurd g (by dsimp only; omega)⟩
   · rw [if_neg c]
     exact ⟨by dsimp only; omega, by dsimp only; omega, fun _ => hn, fun _ => hp, h.t0, h.rf, fun _ => ⟨hr, c⟩, fun g => absurd g (by dsimp only; omega), fun g => absurd g (by dsimp only; omega), fun g => absurd g (by dsimp only; omega), fun g => absurd g (by dsimp only; omega), fun g => absurd g (by dsimp only; omega), fun g => absurd g (by dsimp only; omega), fun g => absurd g (by dsimp only; omega)⟩
 · rw [mvStep_4 mo s z e]
   dsimp only
   have hd := h.d (by omega) (by omega)
   have hm := h.m (.inl e)
   have ho := h.o0 (.inl e)
   have hu := h.u0 (.inl e)
   by_cases c : z.m.tail = []
   · rw [if_pos c]
     exact ⟨by dsimp only; omega, by dsimp only; omega, fun _ => hn, fun _ => hp, h.t0, h.rf, fun g => absurd g (by dsimp only; omega), fun _ _ => hd, fun g => absurd g (by dsimp only; omega), fun g => absurd g (by dsimp only; omega), fun g => absurd g (by dsimp only; omega), fun _ => by dsimp only; rw [ho]; decide, fun _ => hu, fun g => absurd g (by dsimp only; omega)⟩
   · rw [if_neg c]
     exact ⟨by dsimp only; omega, by dsimp only; omega, fun _ => hn, fun _ => hp, h.t0, h.rf, fun g => absurd g (by dsimp only; omega), fun _ _ => hd, fun _ => hm.tail c, fun g => absurd g (by dsimp only; omega), fun _ => ho, fun g => absurd g (by dsimp only; omega), fun _ => hu, fun g => absurd g (by dsimp only; omega)⟩
 · rw [mvStep_5 mo s z e]
   dsimp only
   have hd := h.d (by omega) (by omega)
   have ho := h.o (.inl e)
   have hu := h.u0 (.inr e)
   have hln := outStep_ln z.p s z.o ho.1
   have hw := outStep_w (p := z.p) (s := s) (o := z.o) hb ho.2.1 ho.2.2
   have hov := otOver_3 (o := (outStep z.p s z.o).2) (by omega)
   have h5 : (outStep z.p s z.o).2.ln < 3 → MvOk ⟨5, z.lost, z.now, z.p, z.tag, z.ref, z.rm, z.d, z.m, (outStep z.p s z.o).2, z.u⟩ := fun g5 =>
    ⟨by dsimp only; omega, by dsimp only; omega, fun _ => hn, fun _ => hp, h.t0, h.rf, fun g => absurd g (by dsimp only; omega), fun _ _ => hd, fun g => absurd g (by dsimp only; omega), fun g => absurd g (by dsimp only; omega), fun g => absurd g (by dsimp only; omega), fun _ => ⟨g5, hw.1, hw.2⟩, fun _ => hu, fun g => absurd g (by dsimp only; omega)⟩
   by_cases c : otOver (outStep z.p s z.o).2 = true
   · rw [if_pos c]
     by_cases c2 : otOver z.u = true
     · rw [if_pos c2]
       exact ⟨by unfold mv7; dsimp only; omega, by unfold mv7; dsimp only; omega, fun _ => hn, fun _ => hp, h.t0, h.rf, fun g => absurd g (by unfold mv7; dsimp only; omega), fun _ _ => hd, fun _ => mk2_ok hp hd, fun g => absurd g (by unfold mv7; dsimp only; omega), fun g => absurd g (by unfold mv7; dsimp only; omega), fun g => absurd g (by unfold mv7; dsimp only; omega), fun g => absurd g (by unfold mv7; dsimp only; omega), fun g => absurd g (by unfold mv7; dsimp only; omega)⟩
     · rw [if_neg c2]
       refine ⟨by dsimp only; omega, by dsimp only; omega, fun _ => hn, fun _ => hp, h.t0, h.rf, fun g => absurd g (by dsimp only; omega), fun _ _ => hd, fun g => absurd g (by dsimp only; omega), fun g => absurd g (by dsimp only; omega), fun g => absurd g (by dsimp only; omega), fun g => absurd g (by dsimp only; omega), fun g => absurd g (by dsimp only; omega), fun _ => ?_⟩
       dsimp only
       rcases ptNew_cases z.tag z.ref with g | g
       · rw [hu, g.1]; exact ⟨by decide, by decide, by decide, g.2.1, g.2.2⟩
       · rw [hu, g] at c2; exact absurd rfl c2
   · rw [if_neg c]
     refine h5 ?_
     rw [hov] at c
     simp at c
     omega
 · rw [mvStep_6 mo s z e]
   dsimp only
   have hd := h.d (by omega) (by omega)
   have hu := h.u e
   have hln := putStep_ln z.d z.tag z.ref s z.u hu.1
   have hw := putStep_w (p := z.d) (tg := z.tag) (rf := z.ref) (s := s) (o := z.u) hb hu.2.1 hu.2.2.1
   have hov := otOver_3 (o := (putStep z.d z.tag z.ref s z.u).2) (by omega)
   by_cases c : otOver (putStep z.d z.tag z.ref s z.u).2 = true
   · rw [if_pos c]
     exact ⟨by unfold mv7; dsimp only; omega, by unfold mv7; dsimp only; omega, fun _ => hn, fun _ => hp, h.t0, h.rf, fun g => absurd g (by unfold mv7; dsimp only; omega), fun _ _ => hd, fun _ => mk2_ok hp hd, fun g => absurd g (by unfold mv7; dsimp only; omega), fun g => absurd g (by unfold mv7; dsimp only; omega), fun g => absurd g (by unfold mv7; dsimp only; omega), fun g => absurd g (by unfold mv7; dsimp only; omega), fun g => absurd g (by unfold mv7; dsimp only; omega)⟩
   · rw [if_neg c]
     rw [hov] at c
     simp at c
     exact ⟨by dsimp only; omega, by dsimp only; omega, fun _ => hn, fun _ => hp, h.t0, h.rf, fun g => absurd g (by dsimp only; omega), fun _ _ => hd, fun g => absurd g (by dsimp only; omega), fun g => absurd g (by dsimp only; omega), fun g => absurd g (by dsimp only; omega), fun g => absurd g (by dsimp only; omega), fun g => absurd g (by dsimp only; omega), fun _ => ⟨by dsimp only; omega, hw.1, hw.2, hu.2.2.2⟩⟩
 · rw [mvStep_7 mo s z e]
   dsimp only
   split
   · exact mvNext_ok h hz
   · rename_i c
     exact ⟨by dsimp only; omega, by dsimp only; omega, fun _ => hn, fun _ => hp, h.t0, h.rf, fun g => absurd g (by dsimp only; omega), fun _ _ => h.d (by omega) (by omega), fun _ => (h.m (.inr e)).tail c, fun g => absurd g (by dsimp only; omega), fun g => absurd g (by dsimp only; omega), fun g => absurd g (by dsimp only; omega), fun g => absurd g (by dsimp only; omega), fun g => absurd g (by dsimp only; omega)⟩
 · rw [mvStep_8 mo s z e]
   exact ⟨by dsimp only; omega, by dsimp only; omega, fun _ => hn, fun _ => hp, h.t0, h.rf, fun g => absurd g (by dsimp only; omega), fun _ g => absurd g (by dsimp only; omega), fun g => absurd g (by dsimp only; omega), fun g => absurd g (by dsimp only; omega), fun g => absurd g (by dsimp only; omega), fun _ => by dsimp only; omega, fun g => absurd g (by dsimp only; omega), fun g => absurd g (by dsimp only; omega)⟩
 · rw [mvStep_9 mo s z e]
   have ho := h.o (.inr e)
   have hln := outStep_ln z.p s z.o ho.1
   have hw := outStep_w (p := z.p) (s := s) (o := z.o) hb ho.2.1 ho.2.2
   dsimp only
   by_cases c : z.o.ln = 2
   · rw [if_pos c, if_pos c]
     exact ⟨by dsimp only; omega, by dsimp only; omega, fun _ => hn, fun _ => hp, h.t0, h.rf, fun g => absurd g (by dsimp only; omega), fun _ g => absurd g (by dsimp only; omega), fun g => absurd g (by dsimp only; omega), fun _ => rfl, fun g => absurd g (by dsimp only; omega), fun g => absurd g (by dsimp only; omega), fun g => absurd g (by dsimp only; omega), fun g => absurd g (by dsimp only; omega)⟩
   · rw [if_neg c, if_neg c]
     exact ⟨by dsimp only; omega, by dsimp only; omega, fun _ => hn, fun _ => hp, h.t0, h.rf, fun g => absurd g (by dsimp only; omega), fun _ g => absurd g (by dsimp only; omega), fun g => absurd g (by dsimp only; omega), fun g => absurd g (by dsimp only; omega), fun g => absurd g (by dsimp only; omega), fun _ => ⟨by dsimp only; omega, hw.1, hw.2⟩, fun g => absurd g (by dsimp only; omega), fun g => absurd g (by dsimp only; omega)⟩
 · rw [mvStep_10 mo s z e]
   exact .at (by dsimp only; omega) (by dsimp only; omega) (fun _ => hn) (fun _ => hp) h.t0 h.rf (by dsimp only; omega)
 · rw [mvStep_11 mo s z e]
   exact mvNext_ok (.at (by dsimp only; omega) (by dsimp only; omega) (fun _ => hn) (fun _ => hp) h.t0 h.rf (by dsimp only; omega)) (by dsimp only; omega)
end
end Go.Proofs.YtfnmdafpdcgcmaaGreat
