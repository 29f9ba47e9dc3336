/- Parts of the walk. -/
import Derived.Test.YthbodknlhkapdaaGreatG4
import Derived.Test.YthbodknlhkapdaaGreatW1
import Derived.Test.YthbodknlhkapdaaGreatBaG
import Derived.Test.YthbodknlhkapdaaGreatBaH
namespace Go.Proofs.YthbodknlhkapdaaGreat
set_option linter.unusedVariables false
set_option linter.unusedSimpArgs false
section
open Go.RowKit
def Avb (l : List Int) : Prop := l ≠ [] ∧ l.length ≤ 5 ∧ ∀ a ∈ l, 0 ≤ a ∧ a < 18446744073709551616
theorem Ag0 {p q : Spt} (hp : p.ok) (hq : q.ok) : Avb (mk2 p q) := by
 have h := Asb p q
 exact ⟨fun e => by rw [e] at h; simp at h, by omega, Bak hp hq⟩
theorem Avb.tail {l : List Int} (h : Avb l) (ht : l.tail ≠ []) : Avb l.tail := ⟨ht, by have := h.2.1; rw [List.length_tail]; omega, fun a ha => h.2.2 a (List.mem_of_mem_tail ha)⟩
theorem Avb.head {l : List Int} (h : Avb l) : ∃ a r, l = a :: r ∧ 0 ≤ a ∧ a < 18446744073709551616 := by
 obtain ⟨h1, h2, h3⟩ := h
 cases l with
 | nil => exact absurd rfl h1
 | cons a r => exact ⟨a, r, rfl, h3 a (by simp)⟩
structure Ahh (z : Hom) : Prop where
 l0 : 0 ≤ z.ln
 l6 : z.ln ≤ 6
 way : ∀ p ∈ z.way, p.ok
 len : z.way.length ≤ 8192
 kk : -2 ≤ z.k ∧ z.k < z.way.length
 k : z.ln ≠ 0 → 0 ≤ z.k ∧ z.k + 1 < z.way.length
 z0 : z.ln = 0 → z.k ≤ -1
 t0 : 0 ≤ z.tag ∧ z.tag ≤ 255
 rf : -9223372036854775808 ≤ z.ref ∧ z.ref ≤ 9223372036854775807
 m1 : z.ln = 3 → Avb z.m1
 o : 3 ≤ z.ln → z.ln ≤ 4 → z.o.ln < 3 ∧ 0 ≤ z.o.w ∧ z.o.w < 18446744073709551616
 o3 : z.ln = 3 → z.o = ⟨0, 0⟩
 u0 : 3 ≤ z.ln → z.ln ≤ 4 → z.u = Abe z.tag z.ref
 u : z.ln = 5 → z.u.ln < 3 ∧ 0 ≤ z.u.w ∧ z.u.w < 18446744073709551616 ∧ 1 ≤ z.tag ∧ 1 ≤ z.ref
 m2 : 3 ≤ z.ln → Avb z.m2
theorem Asf {l : List Spt} (h : ∀ p ∈ l, p.ok) {i : Int} (h0 : 0 ≤ i) (h1 : i < l.length) : (Ag1 l i).ok := by
 unfold Ag1
 have hi : i.toNat < l.length := by omega
 rw [if_neg (by omega), List.getD, List.getElem?_eq_getElem hi]
 exact h _ (List.getElem_mem hi)
theorem Ahh.sok {z : Hom} (h : Ahh z) (hl : z.ln ≠ 0) : z.s.ok := Asf h.way (h.k hl).1 (by have := (h.k hl).2; omega)
theorem Ahh.tok {z : Hom} (h : Ahh z) (hl : z.ln ≠ 0) : z.t.ok := Asf h.way (by have := (h.k hl).1; omega) (h.k hl).2
theorem Aea (tg rf : Int) : (Abe tg rf = ⟨0, 0⟩ ∧ 1 ≤ tg ∧ 1 ≤ rf) ∨ (Abe tg rf = ⟨3, 0⟩) := by
 unfold Abe
 split
 · exact .inl ⟨rfl, by omega, by omega⟩
 exact .inr rfl
theorem Aux (tg rf : Int) : (Abe tg rf).ln ≤ 3 := by rcases Aea tg rf with h | h <;> simp [h]
theorem Ave {l : List Spt} (h : ∀ p ∈ l, p.ok) (hl : l.length ≤ 8192) : Ahh (Acx l) := by
 unfold Acx
 by_cases c : 2 ≤ l.length
 · rw [if_pos c]
   exact ⟨by dsimp only; omega, by dsimp only; omega, h, hl, by dsimp only; omega, fun _ => (by dsimp only; omega), nnn, by dsimp only; omega, by dsimp only; omega, nnn, nnn, nnn, nnn, nnn, nnn⟩
 rw [if_neg c]
 exact ⟨by dsimp only; omega, by dsimp only; omega, h, hl, by dsimp only; omega, fun g => absurd rfl g, fun _ => (by dsimp only; omega), by dsimp only; omega, by dsimp only; omega, nnn, nnn, nnn, nnn, nnn, nnn⟩
theorem Avd (s : AW) (z : Hom) (h : z.ln = 0) : Aas (s, z) = (s, z) := by
 unfold Aas; dsimp only; rw [if_neg (by omega), if_neg (by omega), if_neg (by omega), if_neg (by omega), if_neg (by omega), if_neg (by omega)]
theorem Akv (s : AW) (z : Hom) (h : z.ln = 1) : Aas (s, z) = (Aan z.s.tags s, ⟨2, z.k, z.way, Aay (s.M z.s.tags) z.s.s, z.ref, z.m1, z.o, z.u, z.m2⟩) := by
 unfold Aas; dsimp only; rw [if_pos h]
theorem Aku (s : AW) (z : Hom) (h : z.ln = 2) : Aas (s, z) = (Aan z.s.item s, ⟨3, z.k, z.way, z.tag, wrap64 (s.M z.s.item), mk2 z.s z.t, ⟨0, 0⟩, Abe z.tag (wrap64 (s.M z.s.item)), mk2 z.s z.t⟩) := by
 unfold Aas; dsimp only; rw [if_neg (by omega), if_pos h]
theorem Akt (s : AW) (z : Hom) (h : z.ln = 3) : Aas (s, z) = (Ab0 (z.m1.headD 0) 1 s, ⟨if z.m1.tail = [] then 4 else 3, z.k, z.way, z.tag, z.ref, z.m1.tail, z.o, z.u, z.m2⟩) := by
 unfold Aas; dsimp only; rw [if_neg (by omega), if_neg (by omega), if_pos h]
 unfold Awr; dsimp only
 by_cases c : z.m1.tail = []
 · rw [if_pos ⟨rfl, c⟩, if_pos c]
 rw [if_neg (fun g => c g.2), if_neg (by omega), if_neg (by omega), if_neg (by omega), if_neg c]
theorem Aks (s : AW) (z : Hom) (h : z.ln = 4) : Aas (s, z) = ((Aaj z.s s z.o).1, ⟨if Aa7 (Aaj z.s s z.o).2 = true then (if Aa7 z.u = true then 6 else 5) else 4, z.k, z.way, z.tag, z.ref, z.m1, (Aaj z.s s z.o).2, z.u, z.m2⟩) := by
 unfold Aas; dsimp only; rw [if_neg (by omega), if_neg (by omega), if_neg (by omega), if_pos h]
 unfold Awr; dsimp only
 by_cases c : Aa7 (Aaj z.s s z.o).2 = true
 · rw [if_neg (by omega), if_pos ⟨rfl, c⟩, if_pos c]
 rw [if_neg (by omega), if_neg (fun g => c g.2), if_neg (by omega), if_neg (by omega), if_neg c]
theorem Akr (s : AW) (z : Hom) (h : z.ln = 5) : Aas (s, z) = ((Aap z.t z.tag z.ref s z.u).1, ⟨if Aa7 (Aap z.t z.tag z.ref s z.u).2 = true then 6 else 5, z.k, z.way, z.tag, z.ref, z.m1, z.o, (Aap z.t z.tag z.ref s z.u).2, z.m2⟩) := by
 unfold Aas; dsimp only; rw [if_neg (by omega), if_neg (by omega), if_neg (by omega), if_neg (by omega), if_pos h]
 unfold Awr; dsimp only
 by_cases c : Aa7 (Aap z.t z.tag z.ref s z.u).2 = true
 · rw [if_neg (by omega), if_neg (by omega), if_pos ⟨rfl, c⟩, if_pos c]
 rw [if_neg (by omega), if_neg (by omega), if_neg (fun g => c g.2), if_neg (by omega), if_neg c]
theorem Akq (s : AW) (z : Hom) (h : z.ln = 6) : Aas (s, z) = (Ab0 (z.m2.headD 0) 1 s, if z.m2.tail = [] then ⟨if z.k - 1 < 0 then 0 else 1, z.k - 1, z.way, z.tag, z.ref, z.m1, z.o, z.u, z.m2.tail⟩ else ⟨6, z.k, z.way, z.tag, z.ref, z.m1, z.o, z.u, z.m2.tail⟩) := by
 unfold Aas; dsimp only; rw [if_neg (by omega), if_neg (by omega), if_neg (by omega), if_neg (by omega), if_neg (by omega), if_pos h]
 unfold Awr; dsimp only
 by_cases c : z.m2.tail = []
 · rw [if_neg (by omega), if_neg (by omega), if_neg (by omega), if_pos ⟨rfl, c⟩, if_pos c]
 rw [if_neg (by omega), if_neg (by omega), if_neg (by omega), if_neg (fun g => c g.2), if_neg c]
theorem Ahh.step {z : Hom} {s : AW} (h : Ahh z) (hb : Bd s.M) : Ahh (Aas (s, z)).2 := by
 have h0 := h.l0
 have h6 := h.l6
 have hc : z.ln = 0 ∨ z.ln = 1 ∨ z.ln = 2 ∨ z.ln = 3 ∨ z.ln = 4 ∨ z.ln = 5 ∨ z.ln = 6 := by omega
 rcases hc with e | e | e | e | e | e | e
 · rw [Avd s z e]; exact h
 · rw [Akv s z e]
   have := h.k (by omega)
   exact ⟨by dsimp only; omega, by dsimp only; omega, h.way, h.len, h.kk, fun _ => this, nnn, Ae1 _ _, h.rf, nnn, nnn, nnn, nnn, nnn, nnn⟩
 · rw [Aku s z e]
   have hs := h.sok (by omega)
   have ht := h.tok (by omega)
   exact ⟨by dsimp only; omega, by dsimp only; omega, h.way, h.len, h.kk, fun _ => h.k (by omega), nnn, h.t0, Ahw _, fun _ => Ag0 hs ht, fun _ _ => by dsimp only; omega, fun _ => rfl, fun _ _ => rfl, nnn, fun _ => Ag0 hs ht⟩
 · rw [Akt s z e]
   by_cases c : z.m1.tail = []
   · rw [if_pos c]
     exact ⟨by dsimp only; omega, by dsimp only; omega, h.way, h.len, h.kk, fun _ => h.k (by omega), nnn, h.t0, h.rf, nnn, fun _ _ => h.o (by omega) (by omega), nnn, fun _ _ => h.u0 (by omega) (by omega), nnn, fun _ => h.m2 (by omega)⟩
   rw [if_neg c]
   exact ⟨by dsimp only; omega, by dsimp only; omega, h.way, h.len, h.kk, fun _ => h.k (by omega), nnn, h.t0, h.rf, fun _ => (h.m1 e).tail c, fun _ _ => h.o (by omega) (by omega), fun _ => h.o3 e, fun _ _ => h.u0 (by omega) (by omega), nnn, fun _ => h.m2 (by omega)⟩
 · rw [Aks s z e]
   obtain ⟨ho, hw0, hw1⟩ := h.o (by omega) (by omega)
   have hu := h.u0 (by omega) (by omega)
   have hln := Ab5 z.s s z.o ho
   have hw := Ah7 (p := z.s) (s := s) (o := z.o) hb hw0 hw1
   by_cases c : Aa7 (Aaj z.s s z.o).2 = true
   · rw [if_pos c]
     by_cases cu : Aa7 z.u = true
     · rw [if_pos cu]
       exact ⟨by dsimp only; omega, by dsimp only; omega, h.way, h.len, h.kk, fun _ => h.k (by omega), nnn, h.t0, h.rf, nnn, fun _ g => absurd g (by dsimp only; omega), nnn, fun _ g => absurd g (by dsimp only; omega), nnn, fun _ => h.m2 (by omega)⟩
     rw [if_neg cu]
     refine ⟨by dsimp only; omega, by dsimp only; omega, h.way, h.len, h.kk, fun _ => h.k (by omega), nnn, h.t0, h.rf, nnn, fun _ g => absurd g (by dsimp only; omega), nnn, fun _ g => absurd g (by dsimp only; omega), fun _ => ?_, fun _ => h.m2 (by omega)⟩
     dsimp only
     rcases Aea z.tag z.ref with g | g
     · rw [hu, g.1]; exact ⟨by decide, by decide, by decide, g.2.1, g.2.2⟩
     rw [hu, g] at cu; exact absurd rfl cu
   rw [if_neg c]
   have hl3 : (Aaj z.s s z.o).2.ln < 3 := by
    rw [Abt (by omega)] at c
    simp at c
    omega
   exact ⟨by dsimp only; omega, by dsimp only; omega, h.way, h.len, h.kk, fun _ => h.k (by omega), nnn, h.t0, h.rf, nnn, fun _ _ => ⟨hl3, hw⟩, nnn, fun _ _ => hu, nnn, fun _ => h.m2 (by omega)⟩
 · rw [Akr s z e]
   obtain ⟨hu, hw0, hw1, ht, hr⟩ := h.u e
   have hln := Acw z.t z.tag z.ref s z.u hu
   have hw := Ah3 (p := z.t) (tg := z.tag) (rf := z.ref) (s := s) (o := z.u) hb hw0 hw1
   by_cases c : Aa7 (Aap z.t z.tag z.ref s z.u).2 = true
   · rw [if_pos c]
     exact ⟨by dsimp only; omega, by dsimp only; omega, h.way, h.len, h.kk, fun _ => h.k (by omega), nnn, h.t0, h.rf, nnn, fun _ g => absurd g (by dsimp only; omega), nnn, fun _ g => absurd g (by dsimp only; omega), nnn, fun _ => h.m2 (by omega)⟩
   rw [if_neg c]
   have hl3 : (Aap z.t z.tag z.ref s z.u).2.ln < 3 := by
    rw [Abt (by omega)] at c
    simp at c
    omega
   exact ⟨by dsimp only; omega, by dsimp only; omega, h.way, h.len, h.kk, fun _ => h.k (by omega), nnn, h.t0, h.rf, nnn, fun _ g => absurd g (by dsimp only; omega), nnn, fun _ g => absurd g (by dsimp only; omega), fun _ => ⟨hl3, hw.1, hw.2, ht, hr⟩, fun _ => h.m2 (by omega)⟩
 rw [Akq s z e]
 have hk := h.k (by omega)
 by_cases c : z.m2.tail = []
 · rw [if_pos c]
   by_cases c0 : z.k - 1 < 0
   · rw [if_pos c0]
     exact ⟨by dsimp only; omega, by dsimp only; omega, h.way, h.len, by dsimp only; omega, fun g => absurd rfl g, fun _ => (by dsimp only; omega), h.t0, h.rf, nnn, nnn, nnn, nnn, nnn, nnn⟩
   rw [if_neg c0]
   exact ⟨by dsimp only; omega, by dsimp only; omega, h.way, h.len, by dsimp only; omega, fun _ => (by dsimp only; omega), nnn, h.t0, h.rf, nnn, nnn, nnn, nnn, nnn, nnn⟩
 rw [if_neg c]
 exact ⟨by dsimp only; omega, by dsimp only; omega, h.way, h.len, h.kk, fun _ => hk, nnn, h.t0, h.rf, nnn, fun _ g => absurd g (by dsimp only; omega), nnn, fun _ g => absurd g (by dsimp only; omega), nnn, fun _ => (h.m2 (by omega)).tail c⟩
theorem Arh {b : Int} {l : List Wnd} (h : WyL b l) (b0 : 1 ≤ b) (b1 : b ≤ 12) : ∀ (n : Nat) (i s : Int) (acc : List Spt), (0 ≤ i → 0 ≤ s ∧ s ≤ 3) → (∀ p ∈ acc, p.ok) → (∀ p ∈ Ab9 b l n i s acc, p.ok) ∧ (Ab9 b l n i s acc).length ≤ acc.length + n := by
 intro n
 induction n with
 | zero => intro i s acc _ ha; exact ⟨ha, by unfold Ab9; omega⟩
 | succ n ih =>
   intro i s acc hs ha
   unfold Ab9
   by_cases c : i < 0
   · rw [if_pos c]; exact ⟨ha, by omega⟩
   rw [if_neg c]
   cases hl : l[i.toNat]? with
   | none => exact ⟨ha, by dsimp only; omega⟩
   | some m =>
     have hm := h.q m (List.mem_of_getElem? hl)
     have hf := h.fr _ _ hl
     have hs2 := hs (by omega)
     have h2 := ih m.fr m.sl (⟨b, m.q, s⟩ :: acc) (fun _ => hf.2.2) (fun p hp => by
      rcases List.mem_cons.1 hp with g | g
      · subst g; exact ⟨b0, b1, hm.1, hm.2, hs2.1, hs2.2⟩
      exact ha p g)
     exact ⟨h2.1, by have := h2.2; rw [List.length_cons] at this; dsimp only; omega⟩
theorem Aw4.step {b : Int} {s : AW} {z : Wym} (h : Aw4 b z) : ((Aaw (s, z)).2.ln = 0 ∧ (∀ p ∈ (Aaw (s, z)).2.way, p.ok) ∧ (Aaw (s, z)).2.way.length ≤ 4097) ∨ ((Aaw (s, z)).2.ln = 1 ∧ Aw4 b (Aaw (s, z)).2) := by
 obtain ⟨ln, l, i, b', mo, way⟩ := z
 obtain ⟨g1, g2, g3, b0, b1, hl, hi⟩ := h
 dsimp only at g1 g2 g3 hl hi
 subst g1 g2 g3
 have hlen := hl.len
 unfold Aaw
 dsimp only
 rw [if_neg (by omega)]
 have hq : 0 ≤ wyQ ⟨1, l, i, b', mo, []⟩ ∧ wyQ ⟨1, l, i, b', mo, []⟩ < Aac b' := by
  unfold wyQ; dsimp only
  rw [List.getElem?_eq_getElem hi]
  exact hl.q _ (List.getElem_mem _)
 obtain ⟨q, hqe⟩ := exq (wyQ ⟨1, l, i, b', mo, []⟩)
 obtain ⟨tg, htg⟩ := exq (Auh s ⟨1, l, i, b', mo, []⟩)
 rw [← hqe] at hq ⊢
 rw [← htg]
 by_cases hf : 0 ≤ Aa5 tg
 · rw [if_pos hf]
   dsimp only
   have hfb := Adw tg
   have h2 := Arh hl b0 b1 (i + 1) (i : Int) (Aa5 tg) [] (fun _ => by omega) (fun p hp => by cases hp)
   exact .inl ⟨rfl, h2.1, by have := h2.2; simp only [List.length_nil] at this; omega⟩
 rw [if_neg hf]
 dsimp only
 have hg := hl.grow mo i q tg hi hq (by omega) 4 (Nat.le_refl _)
 by_cases c : i + 1 = (Aco b' mo i q tg 4 l).length
 · rw [if_pos c]
   exact .inl ⟨rfl, fun p hp => (by cases hp), by simp⟩
 rw [if_neg c]
 have hgl := Ae0 b' mo i q tg 4 l
 exact .inr ⟨rfl, ⟨rfl, rfl, rfl, b0, b1, hg, by dsimp only; omega⟩⟩
theorem Aui {b a c mo : Int} (b0 : 1 ≤ b) (b1 : b ≤ 12) (ha : 0 ≤ a ∧ a < Aac b) (hc : 0 ≤ c ∧ c < Aac b) : Aw4 b (Ag9 b a c mo) := by
 unfold Ag9
 rw [if_pos ⟨ha.1, ha.2, hc.1, hc.2⟩]
 have h1 : WyL b [⟨a, -1, 0⟩] := ⟨by simp, fun n hn => by rw [List.mem_singleton.1 hn]; exact ha, fun j n hj => by
  have hj0 := (List.getElem?_eq_some_iff.1 hj).1
  simp at hj0
  subst hj0
  simp at hj
  subst hj
  dsimp only; omega⟩
 have hlen := Ajf [⟨a, -1, 0⟩] ⟨c, -1, 0⟩
 exact ⟨rfl, rfl, rfl, b0, b1, h1.node _ hc (by dsimp only; simp) (by dsimp only; omega), by have := hlen.1; simp at this; dsimp only; omega⟩
end
section
open Go.RowKit
structure Am5 (z : Rmm) : Prop where
 l0 : 0 ≤ z.ln
 l4 : z.ln ≤ 4
 b : z.ln ≠ 0 → 1 ≤ z.b ∧ z.b ≤ 12
 a : z.ln ≠ 0 → 0 ≤ z.a ∧ z.a < Aac z.b
 c : z.ln ≠ 0 → 0 ≤ z.c ∧ z.c < Aac z.b
 y : z.ln = 3 → Aw4 z.b z.wy
 h : z.ln = 4 → Ahh z.ho ∧ z.ho.ln ≠ 0
 p : z.ln = 4 ∨ z.is = true → z.p.ok
 is : z.ln ≠ 0 → z.is = false
theorem Ao3 {ln : Int} {is : Bool} {P : Prop} (h : ln = 4 ∨ is = true) (h4 : ln ≠ 4) (hi : is = false) : P := by
 rcases h with g | g
 · exact absurd g h4
 rw [hi] at g; cases g
theorem Am5.go {f : Cf} {z : Rmm} (h : Am5 z) (hl : z.ln ≠ 0) : Bb2 f z := ⟨h.b hl, h.a hl, h.c hl, h.y⟩
theorem Aut {b h : Int} (b0 : 1 ≤ b) (b1 : b ≤ 12) (h0 : 0 ≤ h) (h1 : h < 18446744073709551616) : Am5 (Afc b h) ∧ (Afc b h).ln = 1 := by
 have htg := Ad0 h h0 h1
 have hbk := Aby (h := h) b0 b1
 have hot := Aeb (b := b) ⟨hbk.1, hbk.2, htg.1, htg.2⟩
 unfold Afc
 rw [if_pos ⟨b0, b1⟩]
 exact ⟨⟨by dsimp only; omega, by dsimp only; omega, fun _ => ⟨b0, b1⟩, fun _ => hbk, fun _ => hot, nnn, nnn, fun g => by rcases g with g | g <;> simp at g, fun _ => rfl⟩, rfl⟩
theorem Aj9 (mo : Int) (s : AW) (z : Rmm) (h : z.ln = 1) : Aaq mo (s, z) = (Aan (Aai z.b z.a) s, if 0 ≤ Aa5 (s.M (Aai z.b z.a)) then Am2 z ⟨z.b, z.a, Aa5 (s.M (Aai z.b z.a))⟩ else if z.c = z.a then Ab8 mo z else ⟨2, z.b, z.a, z.c, z.wy, z.ho, z.p, z.is⟩) := by
 unfold Aaq Awn; dsimp only; rw [if_pos h]
theorem Aj8 (mo : Int) (s : AW) (z : Rmm) (h : z.ln = 2) : Aaq mo (s, z) = (Aan (Aai z.b z.c) s, if 0 ≤ Aa5 (s.M (Aai z.b z.c)) then Am2 z ⟨z.b, z.c, Aa5 (s.M (Aai z.b z.c))⟩ else Ab8 mo z) := by
 unfold Aaq Awn; dsimp only; rw [if_neg (by omega), if_pos h]
theorem Aop (mo : Int) (s : AW) (z : Rmm) (h : z.ln = 3) : Aaq mo (s, z) = if (Aaw (s, z.wy)).2.ln = 0 then (if (Aaw (s, z.wy)).2.way = [] then Abr 3 0 0 0 0 0 (Aaw (s, z.wy)).1 else (Aaw (s, z.wy)).1, Acv ⟨3, z.b, z.a, z.c, (Aaw (s, z.wy)).2, z.ho, z.p, z.is⟩) else ((Aaw (s, z.wy)).1, ⟨3, z.b, z.a, z.c, (Aaw (s, z.wy)).2, z.ho, z.p, z.is⟩) := by
 unfold Aaq; dsimp only; rw [if_neg (by omega), if_neg (by omega), if_pos h]
theorem Aoo (mo : Int) (s : AW) (z : Rmm) (h : z.ln = 4) : Aaq mo (s, z) = ((Aas (s, z.ho)).1, ⟨if (Aas (s, z.ho)).2.ln = 0 then 0 else 4, z.b, z.a, z.c, z.wy, (Aas (s, z.ho)).2, z.p, if (Aas (s, z.ho)).2.ln = 0 then true else z.is⟩) := by
 unfold Aaq; dsimp only; rw [if_neg (by omega), if_neg (by omega), if_neg (by omega), if_pos h]
theorem Arp {z : Rmm} {p : Spt} (hp : p.ok) : Am5 (Am2 z p) :=
 ⟨by unfold Am2; dsimp only; omega, by unfold Am2; dsimp only; omega, fun g => absurd rfl g, fun g => absurd rfl g, fun g => absurd rfl g, fun g => absurd g (by unfold Am2; dsimp only; omega), fun g => absurd g (by unfold Am2; dsimp only; omega), fun _ => hp, fun g => absurd rfl g⟩
theorem Ah1 {z : Rmm} (mo : Int) (h : Am5 z) (hl : z.ln ≠ 0) : Am5 (Ab8 mo z) :=
 ⟨by unfold Ab8; dsimp only; omega, by unfold Ab8; dsimp only; omega, fun _ => h.b hl, fun _ => h.a hl, fun _ => h.c hl, fun _ => Aui (h.b hl).1 (h.b hl).2 (h.a hl) (h.c hl), fun g => absurd g (by unfold Ab8; dsimp only; omega), fun g => Ao3 g (by unfold Ab8; dsimp only; omega) (h.is hl), fun _ => h.is hl⟩
theorem Am5.step {z : Rmm} {s : AW} (mo : Int) (h : Am5 z) (hb : Bd s.M) : Am5 (Aaq mo (s, z)).2 := by
 have h0 := h.l0
 have h4 := h.l4
 have hc : z.ln = 0 ∨ z.ln = 1 ∨ z.ln = 2 ∨ z.ln = 3 ∨ z.ln = 4 := by omega
 rcases hc with e | e | e | e | e
 · have : Aaq mo (s, z) = (s, z) := by unfold Aaq; dsimp only; rw [if_neg (by omega), if_neg (by omega), if_neg (by omega), if_neg (by omega)]
   rw [this]; exact h
 · rw [Aj9 mo s z e]
   dsimp only
   have hl : z.ln ≠ 0 := by omega
   have hfb := Adw (s.M (Aai z.b z.a))
   split
   · rename_i g
     exact Arp ⟨(h.b hl).1, (h.b hl).2, (h.a hl).1, (h.a hl).2, g, hfb.2⟩
   split
   · exact Ah1 mo h hl
   exact ⟨by dsimp only; omega, by dsimp only; omega, fun _ => h.b hl, fun _ => h.a hl, fun _ => h.c hl, nnn, nnn, fun g => Ao3 g (by dsimp only; omega) (h.is hl), fun _ => h.is hl⟩
 · rw [Aj8 mo s z e]
   dsimp only
   have hl : z.ln ≠ 0 := by omega
   have hfb := Adw (s.M (Aai z.b z.c))
   split
   · rename_i g
     exact Arp ⟨(h.b hl).1, (h.b hl).2, (h.c hl).1, (h.c hl).2, g, hfb.2⟩
   exact Ah1 mo h hl
 · rw [Aop mo s z e]
   have hl : z.ln ≠ 0 := by omega
   have hi := h.is hl
   rcases (h.y e).step (s := s) with ⟨g1, g2, g3⟩ | ⟨g1, g2⟩
   · rw [if_pos g1]
     dsimp only
     unfold Acv
     dsimp only
     cases hw : (Aaw (s, z.wy)).2.way with
     | nil => exact ⟨by dsimp only; omega, by dsimp only; omega, fun g => absurd rfl g, fun g => absurd rfl g, fun g => absurd rfl g, nnn, nnn, fun g => Ao3 g (by dsimp only; omega) (h.is hl), fun g => absurd rfl g⟩
     | cons p l =>
       rw [hw] at g2 g3
       dsimp only
       have hho := Ave g2 (by omega)
       have hpk := g2 p (by simp)
       by_cases c2 : 2 ≤ (p :: l).length
       · rw [if_pos c2, if_pos c2]
         have hln : (Acx (p :: l)).ln = 1 := by unfold Acx; dsimp only; rw [if_pos c2]
         exact ⟨by dsimp only; omega, by dsimp only; omega, fun _ => h.b hl, fun _ => h.a hl, fun _ => h.c hl, nnn, fun _ => ⟨hho, by dsimp only; omega⟩, fun _ => hpk, fun _ => hi⟩
       rw [if_neg c2, if_neg c2]
       exact ⟨by dsimp only; omega, by dsimp only; omega, fun g => absurd rfl g, fun g => absurd rfl g, fun g => absurd rfl g, nnn, nnn, fun _ => hpk, fun g => absurd rfl g⟩
   rw [if_neg (by omega)]
   exact ⟨by dsimp only; omega, by dsimp only; omega, fun _ => h.b hl, fun _ => h.a hl, fun _ => h.c hl, fun _ => g2, nnn, fun g => Ao3 g (by dsimp only; omega) (h.is hl), fun _ => hi⟩
 rw [Aoo mo s z e]
 have hl : z.ln ≠ 0 := by omega
 have hi := h.is hl
 have hh := (h.h e).1.step (s := s) hb
 have hpk := h.p (.inl e)
 by_cases c0 : (Aas (s, z.ho)).2.ln = 0
 · rw [if_pos c0, if_pos c0]
   exact ⟨by dsimp only; omega, by dsimp only; omega, fun g => absurd rfl g, fun g => absurd rfl g, fun g => absurd rfl g, nnn, nnn, fun _ => hpk, fun g => absurd rfl g⟩
 rw [if_neg c0, if_neg c0]
 exact ⟨by dsimp only; omega, by dsimp only; omega, fun _ => h.b hl, fun _ => h.a hl, fun _ => h.c hl, nnn, fun _ => ⟨hh, c0⟩, fun _ => hpk, fun _ => hi⟩
end
section
open Go.RowKit
structure Afr (z : Mvm) : Prop where
 l0 : 0 ≤ z.ln
 l11 : z.ln ≤ 11
 now : z.ln ≠ 0 → 1 ≤ z.now ∧ z.now ≤ 12
 p : z.ln ≠ 0 → z.p.ok
 t0 : 0 ≤ z.tag ∧ z.tag ≤ 255
 rf : -9223372036854775808 ≤ z.ref ∧ z.ref ≤ 9223372036854775807
 r : z.ln = 3 → Am5 z.rm ∧ z.rm.ln ≠ 0
 d : 4 ≤ z.ln → z.ln ≤ 7 → z.d.ok
 m : z.ln = 4 ∨ z.ln = 7 → Avb z.m
 m1 : z.ln = 8 ∨ z.ln = 10 → z.m = [z.p.ver]
 o0 : z.ln = 4 ∨ z.ln = 8 → z.o = ⟨0, 0⟩
 o : z.ln = 5 ∨ z.ln = 9 → z.o.ln < 3 ∧ 0 ≤ z.o.w ∧ z.o.w < 18446744073709551616
 u0 : z.ln = 4 ∨ z.ln = 5 → z.u = Abe z.tag z.ref
 u : z.ln = 6 → z.u.ln < 3 ∧ 0 ≤ z.u.w ∧ z.u.w < 18446744073709551616 ∧ 1 ≤ z.tag ∧ 1 ≤ z.ref
theorem Afr.at {z : Mvm} (l0 : 0 ≤ z.ln) (l11 : z.ln ≤ 11) (now : z.ln ≠ 0 → 1 ≤ z.now ∧ z.now ≤ 12) (p : z.ln ≠ 0 → z.p.ok) (t0 : 0 ≤ z.tag ∧ z.tag ≤ 255) (rf : -9223372036854775808 ≤ z.ref ∧ z.ref ≤ 9223372036854775807)
 (h : z.ln = 0 ∨ z.ln = 1 ∨ z.ln = 2 ∨ z.ln = 11) : Afr z :=
 ⟨l0, l11, now, p, t0, rf, fun g => absurd g (by omega), fun g g2 => absurd h (by omega), fun g => absurd h (by omega), fun g => absurd h (by omega), fun g => absurd h (by omega), fun g => absurd h (by omega), fun g => absurd h (by omega), fun g => absurd h (by omega)⟩
theorem Aov (mo : Int) (s : AW) (z : Mvm) (h : z.ln = 0) : Aae mo (s, z) = (s, z) := by
 unfold Aae; dsimp only; rw [if_neg (by omega), if_neg (by omega), if_neg (by omega), if_neg (by omega), if_neg (by omega), if_neg (by omega), if_neg (by omega), if_neg (by omega), if_neg (by omega), if_neg (by omega), if_neg (by omega)]
theorem Ahl (mo : Int) (s : AW) (z : Mvm) (h : z.ln = 3) : Aae mo (s, z) = ((Aaq mo (s, z.rm)).1, if (Aaq mo (s, z.rm)).2.ln = 0 then (if (Aaq mo (s, z.rm)).2.is = true then ⟨4, z.lost, z.now, z.p, z.tag, z.ref, (Aaq mo (s, z.rm)).2, (Aaq mo (s, z.rm)).2.p, mk2 z.p (Aaq mo (s, z.rm)).2.p, ⟨0, 0⟩, Abe z.tag z.ref⟩ else ⟨8, z.lost, z.now, z.p, z.tag, z.ref, (Aaq mo (s, z.rm)).2, Am0, [z.p.ver], ⟨0, 0⟩, z.u⟩) else ⟨3, z.lost, z.now, z.p, z.tag, z.ref, (Aaq mo (s, z.rm)).2, z.d, z.m, z.o, z.u⟩) := by
 unfold Aae; dsimp only; rw [if_neg (by omega), if_neg (by omega), if_pos h]
theorem Aki (mo : Int) (s : AW) (z : Mvm) (h : z.ln = 8) : Aae mo (s, z) = (Ab0 z.p.ver 1 s, ⟨9, z.lost, z.now, z.p, z.tag, z.ref, z.rm, z.d, [], ⟨0, 0⟩, z.u⟩) := by
 unfold Aae; dsimp only; rw [if_neg (by omega), if_neg (by omega), if_neg (by omega), if_neg (by omega), if_neg (by omega), if_neg (by omega), if_neg (by omega), if_pos h]
theorem Akh (mo : Int) (s : AW) (z : Mvm) (h : z.ln = 9) : Aae mo (s, z) = (if z.o.ln = 1 then Abr 1 z.ref z.p.b z.p.q z.p.s 0 (Aaj z.p s z.o).1 else (Aaj z.p s z.o).1, ⟨if z.o.ln = 2 then 10 else 9, z.lost, z.now, z.p, z.tag, z.ref, z.rm, z.d, if z.o.ln = 2 then [z.p.ver] else [], (Aaj z.p s z.o).2, z.u⟩) := by
 unfold Aae; dsimp only; rw [if_neg (by omega), if_neg (by omega), if_neg (by omega), if_neg (by omega), if_neg (by omega), if_neg (by omega), if_neg (by omega), if_neg (by omega), if_pos h]
theorem Aia (mo : Int) (s : AW) (z : Mvm) (h : z.ln = 10) : Aae mo (s, z) = (Ab0 z.p.ver 1 s, ⟨11, z.lost, z.now, z.p, z.tag, z.ref, z.rm, z.d, [], z.o, z.u⟩) := by
 unfold Aae; dsimp only; rw [if_neg (by omega), if_neg (by omega), if_neg (by omega), if_neg (by omega), if_neg (by omega), if_neg (by omega), if_neg (by omega), if_neg (by omega), if_neg (by omega), if_pos h]
theorem Ah9 (mo : Int) (s : AW) (z : Mvm) (h : z.ln = 11) : Aae mo (s, z) = (Abr 2 z.ref z.p.b z.p.q z.p.s 0 (Ab0 6 18446744073709551615 s), Abl ⟨11, z.lost + 1, z.now, z.p, z.tag, z.ref, z.rm, z.d, z.m, z.o, z.u⟩) := by
 unfold Aae; dsimp only; rw [if_neg (by omega), if_neg (by omega), if_neg (by omega), if_neg (by omega), if_neg (by omega), if_neg (by omega), if_neg (by omega), if_neg (by omega), if_neg (by omega), if_neg (by omega), if_pos h]
theorem Aib {z : Mvm} (h : Afr z) (hl : z.ln ≠ 0) : Afr (Abl z) := by
 have hp := h.p hl
 have hn := h.now hl
 have h3 := hp.s1
 have h0 := hp.s0
 have hln := Ade z
 refine .at (by omega) (by omega) (fun _ => hn) (fun g => ?_) h.t0 h.rf (by omega)
 have : z.p.s + 1 ≠ 4 := by
  intro e
  have : (Abl z).ln = 0 := by unfold Abl; dsimp only; rw [if_pos e]
  exact g this
 exact ⟨hp.b0, hp.b1, hp.q0, hp.q1, by unfold Abl; dsimp only; omega, by unfold Abl; dsimp only; omega⟩
theorem Au1 (t q : Int) : Afr (Af1 t q) := by
 have h1 := Ae2 t
 have h2 := Akc t
 unfold Af1
 split
 · exact .at (by dsimp only; omega) (by dsimp only; omega) (fun g => absurd rfl g) (fun g => absurd rfl g) (by dsimp only; omega) (by dsimp only; omega) (by dsimp only; omega)
 rename_i c
 exact .at (by dsimp only; omega) (by dsimp only; omega) (fun _ => by dsimp only; omega) (fun _ => ⟨h1.1, h1.2, by dsimp only; omega, by dsimp only; omega, by dsimp only; omega, by dsimp only; omega⟩) (by dsimp only; omega) (by dsimp only; omega) (by dsimp only; omega)
theorem Afr.step {z : Mvm} {s : AW} (mo : Int) (h : Afr z) (hb : Bd s.M) : Afr (Aae mo (s, z)).2 := by
 have h0 := h.l0
 have h11 := h.l11
 by_cases hz : z.ln = 0
 · rw [Aov mo s z hz]; exact h
 have hp := h.p hz
 have hn := h.now hz
 have hc : z.ln = 1 ∨ z.ln = 2 ∨ z.ln = 3 ∨ z.ln = 4 ∨ z.ln = 5 ∨ z.ln = 6 ∨ z.ln = 7 ∨ z.ln = 8 ∨ z.ln = 9 ∨ z.ln = 10 ∨ z.ln = 11 := by omega
 rcases hc with e | e | e | e | e | e | e | e | e | e | e
 · rw [Ako mo s z e]
   dsimp only
   split
   · refine Aib (.at (by dsimp only; omega) (by dsimp only; omega) (fun _ => hn) (fun _ => hp) (by dsimp only; omega) h.rf (by dsimp only; omega)) (by dsimp only; omega)
   exact .at (by dsimp only; omega) (by dsimp only; omega) (fun _ => hn) (fun _ => hp) (Ae1 _ _) h.rf (by dsimp only; omega)
 · rw [Akn mo s z e]
   have hh := Ae8 (Aqe s.it (wrap64 (s.M z.p.item)))
   have hr := Aut (b := z.now) (h := Acn (Aqe s.it (wrap64 (s.M z.p.item)))) hn.1 hn.2 hh.1 hh.2
   exact ⟨by dsimp only; omega, by dsimp only; omega, fun _ => hn, fun _ => hp, h.t0, Ahw _, fun _ => ⟨hr.1, by dsimp only; omega⟩, nnn, nnn, nnn, nnn, nnn, nnn, nnn⟩
 · rw [Ahl mo s z e]
   dsimp only
   have hr := (h.r e).1.step (s := s) mo hb
   by_cases c : (Aaq mo (s, z.rm)).2.ln = 0
   · rw [if_pos c]
     by_cases c2 : (Aaq mo (s, z.rm)).2.is = true
     · rw [if_pos c2]
       have hd := hr.p (.inr c2)
       exact ⟨by dsimp only; omega, by dsimp only; omega, fun _ => hn, fun _ => hp, h.t0, h.rf, nnn, fun _ _ => hd, fun _ => Ag0 hp hd, nnn, fun _ => rfl, nnn, fun _ => rfl, nnn⟩
     rw [if_neg c2]
     exact ⟨by dsimp only; omega, by dsimp only; omega, fun _ => hn, fun _ => hp, h.t0, h.rf, nnn, fun _ g => absurd g (by dsimp only; omega), nnn, fun _ => rfl, fun _ => rfl, nnn, nnn, nnn⟩
   rw [if_neg c]
   exact ⟨by dsimp only; omega, by dsimp only; omega, fun _ => hn, fun _ => hp, h.t0, h.rf, fun _ => ⟨hr, c⟩, nnn, nnn, nnn, nnn, nnn, nnn, nnn⟩
 · rw [Akm mo s z e]
   dsimp only
   have hd := h.d (by omega) (by omega)
   have hm := h.m (.inl e)
   have ho := h.o0 (.inl e)
   have hu := h.u0 (.inl e)
   by_cases c : z.m.tail = []
   · rw [if_pos c]
     exact ⟨by dsimp only; omega, by dsimp only; omega, fun _ => hn, fun _ => hp, h.t0, h.rf, nnn, fun _ _ => hd, nnn, nnn, nnn, fun _ => by dsimp only; rw [ho]; decide, fun _ => hu, nnn⟩
   rw [if_neg c]
   exact ⟨by dsimp only; omega, by dsimp only; omega, fun _ => hn, fun _ => hp, h.t0, h.rf, nnn, fun _ _ => hd, fun _ => hm.tail c, nnn, fun _ => ho, nnn, fun _ => hu, nnn⟩
 · rw [Akl mo s z e]
   dsimp only
   have hd := h.d (by omega) (by omega)
   have ho := h.o (.inl e)
   have hu := h.u0 (.inr e)
   have hln := Ab5 z.p s z.o ho.1
   have hw := Ah7 (p := z.p) (s := s) (o := z.o) hb ho.2.1 ho.2.2
   have hov := Abt (o := (Aaj z.p s z.o).2) (by omega)
   have h5 : (Aaj z.p s z.o).2.ln < 3 → Afr ⟨5, z.lost, z.now, z.p, z.tag, z.ref, z.rm, z.d, z.m, (Aaj z.p s z.o).2, z.u⟩ := fun g5 =>
    ⟨by dsimp only; omega, by dsimp only; omega, fun _ => hn, fun _ => hp, h.t0, h.rf, nnn, fun _ _ => hd, nnn, nnn, nnn, fun _ => ⟨g5, hw.1, hw.2⟩, fun _ => hu, nnn⟩
   by_cases c : Aa7 (Aaj z.p s z.o).2 = true
   · rw [if_pos c]
     by_cases c2 : Aa7 z.u = true
     · rw [if_pos c2]
       exact ⟨by unfold mv7; dsimp only; omega, by unfold mv7; dsimp only; omega, fun _ => hn, fun _ => hp, h.t0, h.rf, fun g => absurd g (by unfold mv7; dsimp only; omega), fun _ _ => hd, fun _ => Ag0 hp hd, fun g => absurd g (by unfold mv7; dsimp only; omega), fun g => absurd g (by unfold mv7; dsimp only; omega), fun g => absurd g (by unfold mv7; dsimp only; omega), fun g => absurd g (by unfold mv7; dsimp only; omega), fun g => absurd g (by unfold mv7; dsimp only; omega)⟩
     rw [if_neg c2]
     refine ⟨by dsimp only; omega, by dsimp only; omega, fun _ => hn, fun _ => hp, h.t0, h.rf, nnn, fun _ _ => hd, nnn, nnn, nnn, nnn, nnn, fun _ => ?_⟩
     dsimp only
     rcases Aea z.tag z.ref with g | g
     · rw [hu, g.1]; exact ⟨by decide, by decide, by decide, g.2.1, g.2.2⟩
     rw [hu, g] at c2; exact absurd rfl c2
   rw [if_neg c]
   refine h5 ?_
   rw [hov] at c
   simp at c
   omega
 · rw [Akk mo s z e]
   dsimp only
   have hd := h.d (by omega) (by omega)
   have hu := h.u e
   have hln := Acw z.d z.tag z.ref s z.u hu.1
   have hw := Ah3 (p := z.d) (tg := z.tag) (rf := z.ref) (s := s) (o := z.u) hb hu.2.1 hu.2.2.1
   have hov := Abt (o := (Aap z.d z.tag z.ref s z.u).2) (by omega)
   by_cases c : Aa7 (Aap z.d z.tag z.ref s z.u).2 = true
   · rw [if_pos c]
     exact ⟨by unfold mv7; dsimp only; omega, by unfold mv7; dsimp only; omega, fun _ => hn, fun _ => hp, h.t0, h.rf, fun g => absurd g (by unfold mv7; dsimp only; omega), fun _ _ => hd, fun _ => Ag0 hp hd, fun g => absurd g (by unfold mv7; dsimp only; omega), fun g => absurd g (by unfold mv7; dsimp only; omega), fun g => absurd g (by unfold mv7; dsimp only; omega), fun g => absurd g (by unfold mv7; dsimp only; omega), fun g => absurd g (by unfold mv7; dsimp only; omega)⟩
   rw [if_neg c]
   rw [hov] at c
   simp at c
   exact ⟨by dsimp only; omega, by dsimp only; omega, fun _ => hn, fun _ => hp, h.t0, h.rf, nnn, fun _ _ => hd, nnn, nnn, nnn, nnn, nnn, fun _ => ⟨by dsimp only; omega, hw.1, hw.2, hu.2.2.2⟩⟩
 · rw [Akj mo s z e]
   dsimp only
   split
   · exact Aib h hz
   rename_i c
   exact ⟨by dsimp only; omega, by dsimp only; omega, fun _ => hn, fun _ => hp, h.t0, h.rf, nnn, fun _ _ => h.d (by omega) (by omega), fun _ => (h.m (.inr e)).tail c, nnn, nnn, nnn, nnn, nnn⟩
 · rw [Aki mo s z e]
   exact ⟨by dsimp only; omega, by dsimp only; omega, fun _ => hn, fun _ => hp, h.t0, h.rf, nnn, fun _ g => absurd g (by dsimp only; omega), nnn, nnn, nnn, fun _ => by dsimp only; omega, nnn, nnn⟩
 · rw [Akh mo s z e]
   have ho := h.o (.inr e)
   have hln := Ab5 z.p s z.o ho.1
   have hw := Ah7 (p := z.p) (s := s) (o := z.o) hb ho.2.1 ho.2.2
   dsimp only
   by_cases c : z.o.ln = 2
   · rw [if_pos c, if_pos c]
     exact ⟨by dsimp only; omega, by dsimp only; omega, fun _ => hn, fun _ => hp, h.t0, h.rf, nnn, fun _ g => absurd g (by dsimp only; omega), nnn, fun _ => rfl, nnn, nnn, nnn, nnn⟩
   rw [if_neg c, if_neg c]
   exact ⟨by dsimp only; omega, by dsimp only; omega, fun _ => hn, fun _ => hp, h.t0, h.rf, nnn, fun _ g => absurd g (by dsimp only; omega), nnn, nnn, nnn, fun _ => ⟨by dsimp only; omega, hw.1, hw.2⟩, nnn, nnn⟩
 · rw [Aia mo s z e]
   exact .at (by dsimp only; omega) (by dsimp only; omega) (fun _ => hn) (fun _ => hp) h.t0 h.rf (by dsimp only; omega)
 rw [Ah9 mo s z e]
 exact Aib (.at (by dsimp only; omega) (by dsimp only; omega) (fun _ => hn) (fun _ => hp) h.t0 h.rf (by dsimp only; omega)) (by dsimp only; omega)
end
end Go.Proofs.YthbodknlhkapdaaGreat
