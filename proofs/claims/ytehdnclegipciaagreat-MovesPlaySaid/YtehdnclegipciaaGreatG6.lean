/- Parts of the walk. -/
import Derived.Test.YtehdnclegipciaaGreatG4
import Derived.Test.YtehdnclegipciaaGreatW1
import Derived.Test.YtehdnclegipciaaGreatBaG
import Derived.Test.YtehdnclegipciaaGreatBaH
namespace Go.Proofs.YtehdnclegipciaaGreat
set_option linter.unusedVariables false
set_option linter.unusedSimpArgs false
section
open Go.RowKit
def Aum (l : List Int) : Prop := l ≠ [] ∧ l.length ≤ 5 ∧ ∀ a ∈ l, 0 ≤ a ∧ a < 18446744073709551616
theorem Agu {p q : Spt} (hp : p.ok) (hq : q.ok) : Aum (mk2 p q) := by
 have h := Arp p q
 exact ⟨fun e => by rw [e] at h; simp at h, by omega, Azi hp hq⟩
theorem Aum.tail {l : List Int} (h : Aum l) (ht : l.tail ≠ []) : Aum l.tail := ⟨ht, by have := h.2.1; rw [List.length_tail]; omega, fun a ha => h.2.2 a (List.mem_of_mem_tail ha)⟩
theorem Aum.head {l : List Int} (h : Aum l) : ∃ a r, l = a :: r ∧ 0 ≤ a ∧ a < 18446744073709551616 := by
 obtain ⟨h1, h2, h3⟩ := h
 cases l with
 | nil => exact absurd rfl h1
 | cons a r => exact ⟨a, r, rfl, h3 a (by simp)⟩
structure Ahb (z : Hom) : Prop where
 l0 : 0 ≤ z.ln
 l6 : z.ln ≤ 6
 way : ∀ p ∈ z.way, p.ok
 len : z.way.length ≤ 8192
 kk : -2 ≤ z.k ∧ z.k < z.way.length
 k : z.ln ≠ 0 → 0 ≤ z.k ∧ z.k + 1 < z.way.length
 z0 : z.ln = 0 → z.k ≤ -1
 t0 : 0 ≤ z.tag ∧ z.tag ≤ 255
 rf : -9223372036854775808 ≤ z.ref ∧ z.ref ≤ 9223372036854775807
 m1 : z.ln = 3 → Aum z.m1
 o : 3 ≤ z.ln → z.ln ≤ 4 → z.o.ln < 3 ∧ 0 ≤ z.o.w ∧ z.o.w < 18446744073709551616
 o3 : z.ln = 3 → z.o = ⟨0, 0⟩
 u0 : 3 ≤ z.ln → z.ln ≤ 4 → z.u = Abd z.tag z.ref
 u : z.ln = 5 → z.u.ln < 3 ∧ 0 ≤ z.u.w ∧ z.u.w < 18446744073709551616 ∧ 1 ≤ z.tag ∧ 1 ≤ z.ref
 m2 : 3 ≤ z.ln → Aum z.m2
theorem Arv {l : List Spt} (h : ∀ p ∈ l, p.ok) {i : Int} (h0 : 0 ≤ i) (h1 : i < l.length) : (Agv l i).ok := by
 unfold Agv
 have hi : i.toNat < l.length := by omega
 rw [if_neg (by omega), List.getD, List.getElem?_eq_getElem hi]
 exact h _ (List.getElem_mem hi)
theorem Ahb.sok {z : Hom} (h : Ahb z) (hl : z.ln ≠ 0) : z.s.ok := Arv h.way (h.k hl).1 (by have := (h.k hl).2; omega)
theorem Ahb.tok {z : Hom} (h : Ahb z) (hl : z.ln ≠ 0) : z.t.ok := Arv h.way (by have := (h.k hl).1; omega) (h.k hl).2
theorem Ad3 (tg rf : Int) : (Abd tg rf = ⟨0, 0⟩ ∧ 1 ≤ tg ∧ 1 ≤ rf) ∨ (Abd tg rf = ⟨3, 0⟩) := by
 unfold Abd
 split
 · exact .inl ⟨rfl, by omega, by omega⟩
 · exact .inr rfl
theorem At7 (tg rf : Int) : (Abd tg rf).ln ≤ 3 := by rcases Ad3 tg rf with h | h <;> simp [h]
theorem Aup {l : List Spt} (h : ∀ p ∈ l, p.ok) (hl : l.length ≤ 8192) : Ahb (Acs l) := by
 unfold Acs
 by_cases c : 2 ≤ l.length
 · rw [if_pos c]
   exact ⟨by dsimp only; omega, by dsimp only; omega, h, hl, by dsimp only; omega, fun _ => (by dsimp only; omega), nnn, by dsimp only; omega, by dsimp only; omega, nnn, nnn, nnn, nnn, nnn, nnn⟩
 · rw [if_neg c]
   exact ⟨by dsimp only; omega, by dsimp only; omega, h, hl, by dsimp only; omega, fun g => absurd rfl g, fun _ => (by dsimp only; omega), by dsimp only; omega, by dsimp only; omega, nnn, nnn, nnn, nnn, nnn, nnn⟩
theorem Auo (s : AW) (z : Hom) (h : z.ln = 0) : Aaq (s, z) = (s, z) := by
 unfold Aaq; dsimp only; rw [if_neg (by omega), if_neg (by omega), if_neg (by omega), if_neg (by omega), if_neg (by omega), if_neg (by omega)]
theorem Akj (s : AW) (z : Hom) (h : z.ln = 1) : Aaq (s, z) = (Aas z.s.tags s, ⟨2, z.k, z.way, Aav (s.M z.s.tags) z.s.s, z.ref, z.m1, z.o, z.u, z.m2⟩) := by
 unfold Aaq; dsimp only; rw [if_pos h]
theorem Aki (s : AW) (z : Hom) (h : z.ln = 2) : Aaq (s, z) = (Aas z.s.item s, ⟨3, z.k, z.way, z.tag, wrap64 (s.M z.s.item), mk2 z.s z.t, ⟨0, 0⟩, Abd z.tag (wrap64 (s.M z.s.item)), mk2 z.s z.t⟩) := by
 unfold Aaq; dsimp only; rw [if_neg (by omega), if_pos h]
theorem Akh (s : AW) (z : Hom) (h : z.ln = 3) : Aaq (s, z) = (Aby (z.m1.headD 0) 1 s, ⟨if z.m1.tail = [] then 4 else 3, z.k, z.way, z.tag, z.ref, z.m1.tail, z.o, z.u, z.m2⟩) := by
 unfold Aaq; dsimp only; rw [if_neg (by omega), if_neg (by omega), if_pos h]
 unfold Avx; dsimp only
 by_cases c : z.m1.tail = []
 · rw [if_pos ⟨rfl, c⟩, if_pos c]
 · rw [if_neg (fun g => c g.2), if_neg (by omega), if_neg (by omega), if_neg (by omega), if_neg c]
theorem Akg (s : AW) (z : Hom) (h : z.ln = 4) : Aaq (s, z) = ((Aaj z.s s z.o).1, ⟨if Aa5 (Aaj z.s s z.o).2 = true then (if Aa5 z.u = true then 6 else 5) else 4, z.k, z.way, z.tag, z.ref, z.m1, (Aaj z.s s z.o).2, z.u, z.m2⟩) := by
 unfold Aaq; dsimp only; rw [if_neg (by omega), if_neg (by omega), if_neg (by omega), if_pos h]
 unfold Avx; dsimp only
 by_cases c : Aa5 (Aaj z.s s z.o).2 = true
 · rw [if_neg (by omega), if_pos ⟨rfl, c⟩, if_pos c]
 · rw [if_neg (by omega), if_neg (fun g => c g.2), if_neg (by omega), if_neg (by omega), if_neg c]
theorem Akf (s : AW) (z : Hom) (h : z.ln = 5) : Aaq (s, z) = ((Aan z.t z.tag z.ref s z.u).1, ⟨if Aa5 (Aan z.t z.tag z.ref s z.u).2 = true then 6 else 5, z.k, z.way, z.tag, z.ref, z.m1, z.o, (Aan z.t z.tag z.ref s z.u).2, z.m2⟩) := by
 unfold Aaq; dsimp only; rw [if_neg (by omega), if_neg (by omega), if_neg (by omega), if_neg (by omega), if_pos h]
 unfold Avx; dsimp only
 by_cases c : Aa5 (Aan z.t z.tag z.ref s z.u).2 = true
 · rw [if_neg (by omega), if_neg (by omega), if_pos ⟨rfl, c⟩, if_pos c]
 · rw [if_neg (by omega), if_neg (by omega), if_neg (fun g => c g.2), if_neg (by omega), if_neg c]
theorem Ake (s : AW) (z : Hom) (h : z.ln = 6) : Aaq (s, z) = (Aby (z.m2.headD 0) 1 s, if z.m2.tail = [] then ⟨if z.k - 1 < 0 then 0 else 1, z.k - 1, z.way, z.tag, z.ref, z.m1, z.o, z.u, z.m2.tail⟩ else ⟨6, z.k, z.way, z.tag, z.ref, z.m1, z.o, z.u, z.m2.tail⟩) := by
 unfold Aaq; dsimp only; rw [if_neg (by omega), if_neg (by omega), if_neg (by omega), if_neg (by omega), if_neg (by omega), if_pos h]
 unfold Avx; dsimp only
 by_cases c : z.m2.tail = []
 · rw [if_neg (by omega), if_neg (by omega), if_neg (by omega), if_pos ⟨rfl, c⟩, if_pos c]
 · rw [if_neg (by omega), if_neg (by omega), if_neg (by omega), if_neg (fun g => c g.2), if_neg c]
theorem Ahb.step {z : Hom} {s : AW} (h : Ahb z) (hb : Bd s.M) : Ahb (Aaq (s, z)).2 := by
 have h0 := h.l0
 have h6 := h.l6
 have hc : z.ln = 0 ∨ z.ln = 1 ∨ z.ln = 2 ∨ z.ln = 3 ∨ z.ln = 4 ∨ z.ln = 5 ∨ z.ln = 6 := by omega
 rcases hc with e | e | e | e | e | e | e
 · rw [Auo s z e]; exact h
 · rw [Akj s z e]
   have := h.k (by omega)
   exact ⟨by dsimp only; omega, by dsimp only; omega, h.way, h.len, h.kk, fun _ => this, nnn, Aey _ _, h.rf, nnn, nnn, nnn, nnn, nnn, nnn⟩
 · rw [Aki s z e]
   have hs := h.sok (by omega)
   have ht := h.tok (by omega)
   exact ⟨by dsimp only; omega, by dsimp only; omega, h.way, h.len, h.kk, fun _ => h.k (by omega), nnn, h.t0, Aho _, fun _ => Agu hs ht, fun _ _ => by dsimp only; omega, fun _ => rfl, fun _ _ => rfl, nnn, fun _ => Agu hs ht⟩
 · rw [Akh s z e]
   by_cases c : z.m1.tail = []
   · rw [if_pos c]
     exact ⟨by dsimp only; omega, by dsimp only; omega, h.way, h.len, h.kk, fun _ => h.k (by omega), nnn, h.t0, h.rf, nnn, fun _ _ => h.o (by omega) (by omega), nnn, fun _ _ => h.u0 (by omega) (by omega), nnn, fun _ => h.m2 (by omega)⟩
   · rw [if_neg c]
     exact ⟨by dsimp only; omega, by dsimp only; omega, h.way, h.len, h.kk, fun _ => h.k (by omega), nnn, h.t0, h.rf, fun _ => (h.m1 e).tail c, fun _ _ => h.o (by omega) (by omega), fun _ => h.o3 e, fun _ _ => h.u0 (by omega) (by omega), nnn, fun _ => h.m2 (by omega)⟩
 · rw [Akg s z e]
   obtain ⟨ho, hw0, hw1⟩ := h.o (by omega) (by omega)
   have hu := h.u0 (by omega) (by omega)
   have hln := Ab1 z.s s z.o ho
   have hw := Ahy (p := z.s) (s := s) (o := z.o) hb hw0 hw1
   by_cases c : Aa5 (Aaj z.s s z.o).2 = true
   · rw [if_pos c]
     by_cases cu : Aa5 z.u = true
     · rw [if_pos cu]
       exact ⟨by dsimp only; omega, by dsimp only; omega, h.way, h.len, h.kk, fun _ => h.k (by omega), nnn, h.t0, h.rf, nnn, fun _ g => absurd g (by dsimp only; omega), nnn, fun _ g => absurd g (by dsimp only; omega), nnn, fun _ => h.m2 (by omega)⟩
     · rw [if_neg cu]
       refine ⟨by dsimp only; omega, by dsimp only; omega, h.way, h.len, h.kk, fun _ => h.k (by omega), nnn, h.t0, h.rf, nnn, fun _ g => absurd g (by dsimp only; omega), nnn, fun _ g => absurd g (by dsimp only; omega), fun _ => ?_, fun _ => h.m2 (by omega)⟩
       dsimp only
       rcases Ad3 z.tag z.ref with g | g
       · rw [hu, g.1]; exact ⟨by decide, by decide, by decide, g.2.1, g.2.2⟩
       · rw [hu, g] at cu; exact absurd rfl cu
   · rw [if_neg c]
     have hl3 : (Aaj z.s s z.o).2.ln < 3 := by
      rw [Abp (by omega)] at c
      simp at c
      omega
     exact ⟨by dsimp only; omega, by dsimp only; omega, h.way, h.len, h.kk, fun _ => h.k (by omega), nnn, h.t0, h.rf, nnn, fun _ _ => ⟨hl3, hw⟩, nnn, fun _ _ => hu, nnn, fun _ => h.m2 (by omega)⟩
 · rw [Akf s z e]
   obtain ⟨hu, hw0, hw1, ht, hr⟩ := h.u e
   have hln := Acr z.t z.tag z.ref s z.u hu
   have hw := Ahu (p := z.t) (tg := z.tag) (rf := z.ref) (s := s) (o := z.u) hb hw0 hw1
   by_cases c : Aa5 (Aan z.t z.tag z.ref s z.u).2 = true
   · rw [if_pos c]
     exact ⟨by dsimp only; omega, by dsimp only; omega, h.way, h.len, h.kk, fun _ => h.k (by omega), nnn, h.t0, h.rf, nnn, fun _ g => absurd g (by dsimp only; omega), nnn, fun _ g => absurd g (by dsimp only; omega), nnn, fun _ => h.m2 (by omega)⟩
   · rw [if_neg c]
     have hl3 : (Aan z.t z.tag z.ref s z.u).2.ln < 3 := by
      rw [Abp (by omega)] at c
      simp at c
      omega
     exact ⟨by dsimp only; omega, by dsimp only; omega, h.way, h.len, h.kk, fun _ => h.k (by omega), nnn, h.t0, h.rf, nnn, fun _ g => absurd g (by dsimp only; omega), nnn, fun _ g => absurd g (by dsimp only; omega), fun _ => ⟨hl3, hw.1, hw.2, ht, hr⟩, fun _ => h.m2 (by omega)⟩
 · rw [Ake s z e]
   have hk := h.k (by omega)
   by_cases c : z.m2.tail = []
   · rw [if_pos c]
     by_cases c0 : z.k - 1 < 0
     · rw [if_pos c0]
       exact ⟨by dsimp only; omega, by dsimp only; omega, h.way, h.len, by dsimp only; omega, fun g => absurd rfl g, fun _ => (by dsimp only; omega), h.t0, h.rf, nnn, nnn, nnn, nnn, nnn, nnn⟩
     · rw [if_neg c0]
       exact ⟨by dsimp only; omega, by dsimp only; omega, h.way, h.len, by dsimp only; omega, fun _ => (by dsimp only; omega), nnn, h.t0, h.rf, nnn, nnn, nnn, nnn, nnn, nnn⟩
   · rw [if_neg c]
     exact ⟨by dsimp only; omega, by dsimp only; omega, h.way, h.len, h.kk, fun _ => hk, nnn, h.t0, h.rf, nnn, fun _ g => absurd g (by dsimp only; omega), nnn, fun _ g => absurd g (by dsimp only; omega), nnn, fun _ => (h.m2 (by omega)).tail c⟩
theorem Aqv {b : Int} {l : List Wnd} (h : WyL b l) (b0 : 1 ≤ b) (b1 : b ≤ 12) : ∀ (n : Nat) (i s : Int) (acc : List Spt), (0 ≤ i → 0 ≤ s ∧ s ≤ 3) → (∀ p ∈ acc, p.ok) → (∀ p ∈ Ab5 b l n i s acc, p.ok) ∧ (Ab5 b l n i s acc).length ≤ acc.length + n := by
 intro n
 induction n with
 | zero => intro i s acc _ ha; exact ⟨ha, by unfold Ab5; omega⟩
 | succ n ih =>
   intro i s acc hs ha
   unfold Ab5
   by_cases c : i < 0
   · rw [if_pos c]; exact ⟨ha, by omega⟩
   · rw [if_neg c]
     cases hl : l[i.toNat]? with
     | none => exact ⟨ha, by dsimp only; omega⟩
     | some m =>
       have hm := h.q m (List.mem_of_getElem? hl)
       have hf := h.fr _ _ hl
       have hs2 := hs (by omega)
       have h2 := ih m.fr m.sl (⟨b, m.q, s⟩ :: acc) (fun _ => hf.2.2) (fun p hp => by
        rcases List.mem_cons.1 hp with g | g
        · subst g; exact ⟨b0, b1, hm.1, hm.2, hs2.1, hs2.2⟩
        · exact ha p g)
       exact ⟨h2.1, by have := h2.2; rw [List.length_cons] at this; dsimp only; omega⟩
theorem Awd.step {b : Int} {s : AW} {z : Wym} (h : Awd b z) : ((Aau (s, z)).2.ln = 0 ∧ (∀ p ∈ (Aau (s, z)).2.way, p.ok) ∧ (Aau (s, z)).2.way.length ≤ 4097) ∨ ((Aau (s, z)).2.ln = 1 ∧ Awd b (Aau (s, z)).2) := by
 obtain ⟨ln, l, i, b', mo, way⟩ := z
 obtain ⟨g1, g2, g3, b0, b1, hl, hi⟩ := h
 dsimp only at g1 g2 g3 hl hi
 subst g1 g2 g3
 have hlen := hl.len
 unfold Aau
 dsimp only
 rw [if_neg (by omega)]
 have hq : 0 ≤ wyQ ⟨1, l, i, b', mo, []⟩ ∧ wyQ ⟨1, l, i, b', mo, []⟩ < Aac b' := by
  unfold wyQ; dsimp only
  rw [List.getElem?_eq_getElem hi]
  exact hl.q _ (List.getElem_mem _)
 obtain ⟨q, hqe⟩ := exq (wyQ ⟨1, l, i, b', mo, []⟩)
 obtain ⟨tg, htg⟩ := exq (Atv s ⟨1, l, i, b', mo, []⟩)
 rw [← hqe] at hq ⊢
 rw [← htg]
 by_cases hf : 0 ≤ Aa3 tg
 · rw [if_pos hf]
   dsimp only
   have hfb := Adp tg
   have h2 := Aqv hl b0 b1 (i + 1) (i : Int) (Aa3 tg) [] (fun _ => by omega) (fun p hp => by cases hp)
   exact .inl ⟨rfl, h2.1, by have := h2.2; simp only [List.length_nil] at this; omega⟩
 · rw [if_neg hf]
   dsimp only
   have hg := hl.grow mo i q tg hi hq (by omega) 4 (Nat.le_refl _)
   by_cases c : i + 1 = (Aci b' mo i q tg 4 l).length
   · rw [if_pos c]
     exact .inl ⟨rfl, fun p hp => (by cases hp), by simp⟩
   · rw [if_neg c]
     have hgl := Aex b' mo i q tg 4 l
     exact .inr ⟨rfl, ⟨rfl, rfl, rfl, b0, b1, hg, by dsimp only; omega⟩⟩
theorem Atw {b a c mo : Int} (b0 : 1 ≤ b) (b1 : b ≤ 12) (ha : 0 ≤ a ∧ a < Aac b) (hc : 0 ≤ c ∧ c < Aac b) : Awd b (Ag5 b a c mo) := by
 unfold Ag5
 rw [if_pos ⟨ha.1, ha.2, hc.1, hc.2⟩]
 have h1 : WyL b [⟨a, -1, 0⟩] := ⟨by simp, fun n hn => by rw [List.mem_singleton.1 hn]; exact ha, fun j n hj => by
  have hj0 := (List.getElem?_eq_some_iff.1 hj).1
  simp at hj0
  subst hj0
  simp at hj
  subst hj
  dsimp only; omega⟩
 have hlen := Ai3 [⟨a, -1, 0⟩] ⟨c, -1, 0⟩
 exact ⟨rfl, rfl, rfl, b0, b1, h1.node _ hc (by dsimp only; simp) (by dsimp only; omega), by have := hlen.1; simp at this; dsimp only; omega⟩
end
section
open Go.RowKit
structure Amp (z : Rmm) : Prop where
 l0 : 0 ≤ z.ln
 l4 : z.ln ≤ 4
 b : z.ln ≠ 0 → 1 ≤ z.b ∧ z.b ≤ 12
 a : z.ln ≠ 0 → 0 ≤ z.a ∧ z.a < Aac z.b
 c : z.ln ≠ 0 → 0 ≤ z.c ∧ z.c < Aac z.b
 y : z.ln = 3 → Awd z.b z.wy
 h : z.ln = 4 → Ahb z.ho ∧ z.ho.ln ≠ 0
 p : z.ln = 4 ∨ z.is = true → z.p.ok
 is : z.ln ≠ 0 → z.is = false
theorem Aog {ln : Int} {is : Bool} {P : Prop} (h : ln = 4 ∨ is = true) (h4 : ln ≠ 4) (hi : is = false) : P := by
 rcases h with g | g
 · exact absurd g h4
 · rw [hi] at g; cases g
theorem Amp.go {f : Cf} {z : Rmm} (h : Amp z) (hl : z.ln ≠ 0) : Ba0 f z := ⟨h.b hl, h.a hl, h.c hl, h.y⟩
theorem At3 {b h : Int} (b0 : 1 ≤ b) (b1 : b ≤ 12) (h0 : 0 ≤ h) (h1 : h < 18446744073709551616) : Amp (Ae9 b h) ∧ (Ae9 b h).ln = 1 := by
 have htg := Adu h h0 h1
 have hbk := Abv (h := h) b0 b1
 have hot := Ad5 (b := b) ⟨hbk.1, hbk.2, htg.1, htg.2⟩
 unfold Ae9
 rw [if_pos ⟨b0, b1⟩]
 exact ⟨⟨by dsimp only; omega, by dsimp only; omega, fun _ => ⟨b0, b1⟩, fun _ => hbk, fun _ => hot, nnn, nnn, fun g => by rcases g with g | g <;> simp at g, fun _ => rfl⟩, rfl⟩
theorem Ajw (mo : Int) (s : AW) (z : Rmm) (h : z.ln = 1) : Aao mo (s, z) = (Aas (Aah z.b z.a) s, if 0 ≤ Aa3 (s.M (Aah z.b z.a)) then Amn z ⟨z.b, z.a, Aa3 (s.M (Aah z.b z.a))⟩ else if z.c = z.a then Ab3 mo z else ⟨2, z.b, z.a, z.c, z.wy, z.ho, z.p, z.is⟩) := by
 unfold Aao Avs; dsimp only; rw [if_pos h]
theorem Ajv (mo : Int) (s : AW) (z : Rmm) (h : z.ln = 2) : Aao mo (s, z) = (Aas (Aah z.b z.c) s, if 0 ≤ Aa3 (s.M (Aah z.b z.c)) then Amn z ⟨z.b, z.c, Aa3 (s.M (Aah z.b z.c))⟩ else Ab3 mo z) := by
 unfold Aao Avs; dsimp only; rw [if_neg (by omega), if_pos h]
theorem An5 (mo : Int) (s : AW) (z : Rmm) (h : z.ln = 3) : Aao mo (s, z) = if (Aau (s, z.wy)).2.ln = 0 then (if (Aau (s, z.wy)).2.way = [] then Acm 3 0 0 0 0 0 (Aau (s, z.wy)).1 else (Aau (s, z.wy)).1, Acp ⟨3, z.b, z.a, z.c, (Aau (s, z.wy)).2, z.ho, z.p, z.is⟩) else ((Aau (s, z.wy)).1, ⟨3, z.b, z.a, z.c, (Aau (s, z.wy)).2, z.ho, z.p, z.is⟩) := by
 unfold Aao; dsimp only; rw [if_neg (by omega), if_neg (by omega), if_pos h]
theorem An4 (mo : Int) (s : AW) (z : Rmm) (h : z.ln = 4) : Aao mo (s, z) = ((Aaq (s, z.ho)).1, ⟨if (Aaq (s, z.ho)).2.ln = 0 then 0 else 4, z.b, z.a, z.c, z.wy, (Aaq (s, z.ho)).2, z.p, if (Aaq (s, z.ho)).2.ln = 0 then true else z.is⟩) := by
 unfold Aao; dsimp only; rw [if_neg (by omega), if_neg (by omega), if_neg (by omega), if_pos h]
theorem Aq4 {z : Rmm} {p : Spt} (hp : p.ok) : Amp (Amn z p) :=
 ⟨by unfold Amn; dsimp only; omega, by unfold Amn; dsimp only; omega, fun g => absurd rfl g, fun g => absurd rfl g, fun g => absurd rfl g, fun g => absurd g (by unfold Amn; dsimp only; omega), fun g => absurd g (by unfold Amn; dsimp only; omega), fun _ => hp, fun g => absurd rfl g⟩
theorem Ahs {z : Rmm} (mo : Int) (h : Amp z) (hl : z.ln ≠ 0) : Amp (Ab3 mo z) :=
 ⟨by unfold Ab3; dsimp only; omega, by unfold Ab3; dsimp only; omega, fun _ => h.b hl, fun _ => h.a hl, fun _ => h.c hl, fun _ => Atw (h.b hl).1 (h.b hl).2 (h.a hl) (h.c hl), fun g => absurd g (by unfold Ab3; dsimp only; omega), fun g => Aog g (by unfold Ab3; dsimp only; omega) (h.is hl), fun _ => h.is hl⟩
theorem Amp.step {z : Rmm} {s : AW} (mo : Int) (h : Amp z) (hb : Bd s.M) : Amp (Aao mo (s, z)).2 := by
 have h0 := h.l0
 have h4 := h.l4
 have hc : z.ln = 0 ∨ z.ln = 1 ∨ z.ln = 2 ∨ z.ln = 3 ∨ z.ln = 4 := by omega
 rcases hc with e | e | e | e | e
 · have : Aao mo (s, z) = (s, z) := by unfold Aao; dsimp only; rw [if_neg (by omega), if_neg (by omega), if_neg (by omega), if_neg (by omega)]
   rw [this]; exact h
 · rw [Ajw mo s z e]
   dsimp only
   have hl : z.ln ≠ 0 := by omega
   have hfb := Adp (s.M (Aah z.b z.a))
   split
   · rename_i g
     exact Aq4 ⟨(h.b hl).1, (h.b hl).2, (h.a hl).1, (h.a hl).2, g, hfb.2⟩
   · split
     · exact Ahs mo h hl
     · exact ⟨by dsimp only; omega, by dsimp only; omega, fun _ => h.b hl, fun _ => h.a hl, fun _ => h.c hl, nnn, nnn, fun g => Aog g (by dsimp only; omega) (h.is hl), fun _ => h.is hl⟩
 · rw [Ajv mo s z e]
   dsimp only
   have hl : z.ln ≠ 0 := by omega
   have hfb := Adp (s.M (Aah z.b z.c))
   split
   · rename_i g
     exact Aq4 ⟨(h.b hl).1, (h.b hl).2, (h.c hl).1, (h.c hl).2, g, hfb.2⟩
   · exact Ahs mo h hl
 · rw [An5 mo s z e]
   have hl : z.ln ≠ 0 := by omega
   have hi := h.is hl
   rcases (h.y e).step (s := s) with ⟨g1, g2, g3⟩ | ⟨g1, g2⟩
   · rw [if_pos g1]
     dsimp only
     unfold Acp
     dsimp only
     cases hw : (Aau (s, z.wy)).2.way with
     | nil => exact ⟨by dsimp only; omega, by dsimp only; omega, fun g => absurd rfl g, fun g => absurd rfl g, fun g => absurd rfl g, nnn, nnn, fun g => Aog g (by dsimp only; omega) (h.is hl), fun g => absurd rfl g⟩
     | cons p l =>
       rw [hw] at g2 g3
       dsimp only
       have hho := Aup g2 (by omega)
       have hpk := g2 p (by simp)
       by_cases c2 : 2 ≤ (p :: l).length
       · rw [if_pos c2, if_pos c2]
         have hln : (Acs (p :: l)).ln = 1 := by unfold Acs; dsimp only; rw [if_pos c2]
         exact ⟨by dsimp only; omega, by dsimp only; omega, fun _ => h.b hl, fun _ => h.a hl, fun _ => h.c hl, nnn, fun _ => ⟨hho, by dsimp only; omega⟩, fun _ => hpk, fun _ => hi⟩
       · rw [if_neg c2, if_neg c2]
         exact ⟨by dsimp only; omega, by dsimp only; omega, fun g => absurd rfl g, fun g => absurd rfl g, fun g => absurd rfl g, nnn, nnn, fun _ => hpk, fun g => absurd rfl g⟩
   · rw [if_neg (by omega)]
     exact ⟨by dsimp only; omega, by dsimp only; omega, fun _ => h.b hl, fun _ => h.a hl, fun _ => h.c hl, fun _ => g2, nnn, fun g => Aog g (by dsimp only; omega) (h.is hl), fun _ => hi⟩
 · rw [An4 mo s z e]
   have hl : z.ln ≠ 0 := by omega
   have hi := h.is hl
   have hh := (h.h e).1.step (s := s) hb
   have hpk := h.p (.inl e)
   by_cases c0 : (Aaq (s, z.ho)).2.ln = 0
   · rw [if_pos c0, if_pos c0]
     exact ⟨by dsimp only; omega, by dsimp only; omega, fun g => absurd rfl g, fun g => absurd rfl g, fun g => absurd rfl g, nnn, nnn, fun _ => hpk, fun g => absurd rfl g⟩
   · rw [if_neg c0, if_neg c0]
     exact ⟨by dsimp only; omega, by dsimp only; omega, fun _ => h.b hl, fun _ => h.a hl, fun _ => h.c hl, nnn, fun _ => ⟨hh, c0⟩, fun _ => hpk, fun _ => hi⟩
end
section
open Go.RowKit
structure Afl (z : Mvm) : Prop where
 l0 : 0 ≤ z.ln
 l11 : z.ln ≤ 11
 now : z.ln ≠ 0 → 1 ≤ z.now ∧ z.now ≤ 12
 p : z.ln ≠ 0 → z.p.ok
 t0 : 0 ≤ z.tag ∧ z.tag ≤ 255
 rf : -9223372036854775808 ≤ z.ref ∧ z.ref ≤ 9223372036854775807
 r : z.ln = 3 → Amp z.rm ∧ z.rm.ln ≠ 0
 d : 4 ≤ z.ln → z.ln ≤ 7 → z.d.ok
 m : z.ln = 4 ∨ z.ln = 7 → Aum z.m
 m1 : z.ln = 8 ∨ z.ln = 10 → z.m = [z.p.ver]
 o0 : z.ln = 4 ∨ z.ln = 8 → z.o = ⟨0, 0⟩
 o : z.ln = 5 ∨ z.ln = 9 → z.o.ln < 3 ∧ 0 ≤ z.o.w ∧ z.o.w < 18446744073709551616
 u0 : z.ln = 4 ∨ z.ln = 5 → z.u = Abd z.tag z.ref
 u : z.ln = 6 → z.u.ln < 3 ∧ 0 ≤ z.u.w ∧ z.u.w < 18446744073709551616 ∧ 1 ≤ z.tag ∧ 1 ≤ z.ref
theorem Afl.at {z : Mvm} (l0 : 0 ≤ z.ln) (l11 : z.ln ≤ 11) (now : z.ln ≠ 0 → 1 ≤ z.now ∧ z.now ≤ 12) (p : z.ln ≠ 0 → z.p.ok) (t0 : 0 ≤ z.tag ∧ z.tag ≤ 255) (rf : -9223372036854775808 ≤ z.ref ∧ z.ref ≤ 9223372036854775807)
 (h : z.ln = 0 ∨ z.ln = 1 ∨ z.ln = 2 ∨ z.ln = 11) : Afl z :=
 ⟨l0, l11, now, p, t0, rf, fun g => absurd g (by omega), fun g g2 => absurd h (by omega), fun g => absurd h (by omega), fun g => absurd h (by omega), fun g => absurd h (by omega), fun g => absurd h (by omega), fun g => absurd h (by omega), fun g => absurd h (by omega)⟩
theorem Akc (mo : Int) (s : AW) (z : Mvm) (h : z.ln = 0) : Aae mo (s, z) = (s, z) := by
 unfold Aae; dsimp only; rw [if_neg (by omega), if_neg (by omega), if_neg (by omega), if_neg (by omega), if_neg (by omega), if_neg (by omega), if_neg (by omega), if_neg (by omega), if_neg (by omega), if_neg (by omega), if_neg (by omega)]
theorem Ahe (mo : Int) (s : AW) (z : Mvm) (h : z.ln = 3) : Aae mo (s, z) = ((Aao mo (s, z.rm)).1, if (Aao mo (s, z.rm)).2.ln = 0 then (if (Aao mo (s, z.rm)).2.is = true then ⟨4, z.lost, z.now, z.p, z.tag, z.ref, (Aao mo (s, z.rm)).2, (Aao mo (s, z.rm)).2.p, mk2 z.p (Aao mo (s, z.rm)).2.p, ⟨0, 0⟩, Abd z.tag z.ref⟩ else ⟨8, z.lost, z.now, z.p, z.tag, z.ref, (Aao mo (s, z.rm)).2, Apm, [z.p.ver], ⟨0, 0⟩, z.u⟩) else ⟨3, z.lost, z.now, z.p, z.tag, z.ref, (Aao mo (s, z.rm)).2, z.d, z.m, z.o, z.u⟩) := by
 unfold Aae; dsimp only; rw [if_neg (by omega), if_neg (by omega), if_pos h]
theorem Aj5 (mo : Int) (s : AW) (z : Mvm) (h : z.ln = 8) : Aae mo (s, z) = (Aby z.p.ver 1 s, ⟨9, z.lost, z.now, z.p, z.tag, z.ref, z.rm, z.d, [], ⟨0, 0⟩, z.u⟩) := by
 unfold Aae; dsimp only; rw [if_neg (by omega), if_neg (by omega), if_neg (by omega), if_neg (by omega), if_neg (by omega), if_neg (by omega), if_neg (by omega), if_pos h]
theorem Aj4 (mo : Int) (s : AW) (z : Mvm) (h : z.ln = 9) : Aae mo (s, z) = (if z.o.ln = 1 then Acm 1 z.ref z.p.b z.p.q z.p.s 0 (Aaj z.p s z.o).1 else (Aaj z.p s z.o).1, ⟨if z.o.ln = 2 then 10 else 9, z.lost, z.now, z.p, z.tag, z.ref, z.rm, z.d, if z.o.ln = 2 then [z.p.ver] else [], (Aaj z.p s z.o).2, z.u⟩) := by
 unfold Aae; dsimp only; rw [if_neg (by omega), if_neg (by omega), if_neg (by omega), if_neg (by omega), if_neg (by omega), if_neg (by omega), if_neg (by omega), if_neg (by omega), if_pos h]
theorem Ah1 (mo : Int) (s : AW) (z : Mvm) (h : z.ln = 10) : Aae mo (s, z) = (Aby z.p.ver 1 s, ⟨11, z.lost, z.now, z.p, z.tag, z.ref, z.rm, z.d, [], z.o, z.u⟩) := by
 unfold Aae; dsimp only; rw [if_neg (by omega), if_neg (by omega), if_neg (by omega), if_neg (by omega), if_neg (by omega), if_neg (by omega), if_neg (by omega), if_neg (by omega), if_neg (by omega), if_pos h]
theorem Ah0 (mo : Int) (s : AW) (z : Mvm) (h : z.ln = 11) : Aae mo (s, z) = (Acm 2 z.ref z.p.b z.p.q z.p.s 0 (Aby 6 18446744073709551615 s), Abs ⟨11, z.lost + 1, z.now, z.p, z.tag, z.ref, z.rm, z.d, z.m, z.o, z.u⟩) := by
 unfold Aae; dsimp only; rw [if_neg (by omega), if_neg (by omega), if_neg (by omega), if_neg (by omega), if_neg (by omega), if_neg (by omega), if_neg (by omega), if_neg (by omega), if_neg (by omega), if_neg (by omega), if_pos h]
theorem Ah2 {z : Mvm} (h : Afl z) (hl : z.ln ≠ 0) : Afl (Abs z) := by
 have hp := h.p hl
 have hn := h.now hl
 have h3 := hp.s1
 have h0 := hp.s0
 have hln := Ac8 z
 refine .at (by omega) (by omega) (fun _ => hn) (fun g => ?_) h.t0 h.rf (by omega)
 have : z.p.s + 1 ≠ 4 := by
  intro e
  have : (Abs z).ln = 0 := by unfold Abs; dsimp only; rw [if_pos e]
  exact g this
 exact ⟨hp.b0, hp.b1, hp.q0, hp.q1, by unfold Abs; dsimp only; omega, by unfold Abs; dsimp only; omega⟩
theorem Aub (t q : Int) : Afl (Ads t q) := by
 have h1 := Aez t
 have h2 := Ajz t
 unfold Ads
 split
 · exact .at (by dsimp only; omega) (by dsimp only; omega) (fun g => absurd rfl g) (fun g => absurd rfl g) (by dsimp only; omega) (by dsimp only; omega) (by dsimp only; omega)
 · rename_i c
   exact .at (by dsimp only; omega) (by dsimp only; omega) (fun _ => by dsimp only; omega) (fun _ => ⟨h1.1, h1.2, by dsimp only; omega, by dsimp only; omega, by dsimp only; omega, by dsimp only; omega⟩) (by dsimp only; omega) (by dsimp only; omega) (by dsimp only; omega)
theorem Afl.step {z : Mvm} {s : AW} (mo : Int) (h : Afl z) (hb : Bd s.M) : Afl (Aae mo (s, z)).2 := by
 have h0 := h.l0
 have h11 := h.l11
 by_cases hz : z.ln = 0
 · rw [Akc mo s z hz]; exact h
 have hp := h.p hz
 have hn := h.now hz
 have hc : z.ln = 1 ∨ z.ln = 2 ∨ z.ln = 3 ∨ z.ln = 4 ∨ z.ln = 5 ∨ z.ln = 6 ∨ z.ln = 7 ∨ z.ln = 8 ∨ z.ln = 9 ∨ z.ln = 10 ∨ z.ln = 11 := by omega
 rcases hc with e | e | e | e | e | e | e | e | e | e | e
 · rw [Akb mo s z e]
   dsimp only
   split
   · refine Ah2 (.at (by dsimp only; omega) (by dsimp only; omega) (fun _ => hn) (fun _ => hp) (by dsimp only; omega) h.rf (by dsimp only; omega)) (by dsimp only; omega)
   · exact .at (by dsimp only; omega) (by dsimp only; omega) (fun _ => hn) (fun _ => hp) (Aey _ _) h.rf (by dsimp only; omega)
 · rw [Aka mo s z e]
   have hh := Ae5 (Apw s.it (wrap64 (s.M z.p.item)))
   have hr := At3 (b := z.now) (h := Ab6 (Apw s.it (wrap64 (s.M z.p.item)))) hn.1 hn.2 hh.1 hh.2
   exact ⟨by dsimp only; omega, by dsimp only; omega, fun _ => hn, fun _ => hp, h.t0, Aho _, fun _ => ⟨hr.1, by dsimp only; omega⟩, nnn, nnn, nnn, nnn, nnn, nnn, nnn⟩
 · rw [Ahe mo s z e]
   dsimp only
   have hr := (h.r e).1.step (s := s) mo hb
   by_cases c : (Aao mo (s, z.rm)).2.ln = 0
   · rw [if_pos c]
     by_cases c2 : (Aao mo (s, z.rm)).2.is = true
     · rw [if_pos c2]
       have hd := hr.p (.inr c2)
       exact ⟨by dsimp only; omega, by dsimp only; omega, fun _ => hn, fun _ => hp, h.t0, h.rf, nnn, fun _ _ => hd, fun _ => Agu hp hd, nnn, fun _ => rfl, nnn, fun _ => rfl, nnn⟩
     · rw [if_neg c2]
       exact ⟨by dsimp only; omega, by dsimp only; omega, fun _ => hn, fun _ => hp, h.t0, h.rf, nnn, fun _ g => absurd g (by dsimp only; omega), nnn, fun _ => rfl, fun _ => rfl, nnn, nnn, nnn⟩
   · rw [if_neg c]
     exact ⟨by dsimp only; omega, by dsimp only; omega, fun _ => hn, fun _ => hp, h.t0, h.rf, fun _ => ⟨hr, c⟩, nnn, nnn, nnn, nnn, nnn, nnn, nnn⟩
 · rw [Aj9 mo s z e]
   dsimp only
   have hd := h.d (by omega) (by omega)
   have hm := h.m (.inl e)
   have ho := h.o0 (.inl e)
   have hu := h.u0 (.inl e)
   by_cases c : z.m.tail = []
   · rw [if_pos c]
     exact ⟨by dsimp only; omega, by dsimp only; omega, fun _ => hn, fun _ => hp, h.t0, h.rf, nnn, fun _ _ => hd, nnn, nnn, nnn, fun _ => by dsimp only; rw [ho]; decide, fun _ => hu, nnn⟩
   · rw [if_neg c]
     exact ⟨by dsimp only; omega, by dsimp only; omega, fun _ => hn, fun _ => hp, h.t0, h.rf, nnn, fun _ _ => hd, fun _ => hm.tail c, nnn, fun _ => ho, nnn, fun _ => hu, nnn⟩
 · rw [Aj8 mo s z e]
   dsimp only
   have hd := h.d (by omega) (by omega)
   have ho := h.o (.inl e)
   have hu := h.u0 (.inr e)
   have hln := Ab1 z.p s z.o ho.1
   have hw := Ahy (p := z.p) (s := s) (o := z.o) hb ho.2.1 ho.2.2
   have hov := Abp (o := (Aaj z.p s z.o).2) (by omega)
   have h5 : (Aaj z.p s z.o).2.ln < 3 → Afl ⟨5, z.lost, z.now, z.p, z.tag, z.ref, z.rm, z.d, z.m, (Aaj z.p s z.o).2, z.u⟩ := fun g5 =>
    ⟨by dsimp only; omega, by dsimp only; omega, fun _ => hn, fun _ => hp, h.t0, h.rf, nnn, fun _ _ => hd, nnn, nnn, nnn, fun _ => ⟨g5, hw.1, hw.2⟩, fun _ => hu, nnn⟩
   by_cases c : Aa5 (Aaj z.p s z.o).2 = true
   · rw [if_pos c]
     by_cases c2 : Aa5 z.u = true
     · rw [if_pos c2]
       exact ⟨by unfold mv7; dsimp only; omega, by unfold mv7; dsimp only; omega, fun _ => hn, fun _ => hp, h.t0, h.rf, fun g => absurd g (by unfold mv7; dsimp only; omega), fun _ _ => hd, fun _ => Agu hp hd, fun g => absurd g (by unfold mv7; dsimp only; omega), fun g => absurd g (by unfold mv7; dsimp only; omega), fun g => absurd g (by unfold mv7; dsimp only; omega), fun g => absurd g (by unfold mv7; dsimp only; omega), fun g => absurd g (by unfold mv7; dsimp only; omega)⟩
     · rw [if_neg c2]
       refine ⟨by dsimp only; omega, by dsimp only; omega, fun _ => hn, fun _ => hp, h.t0, h.rf, nnn, fun _ _ => hd, nnn, nnn, nnn, nnn, nnn, fun _ => ?_⟩
       dsimp only
       rcases Ad3 z.tag z.ref with g | g
       · rw [hu, g.1]; exact ⟨by decide, by decide, by decide, g.2.1, g.2.2⟩
       · rw [hu, g] at c2; exact absurd rfl c2
   · rw [if_neg c]
     refine h5 ?_
     rw [hov] at c
     simp at c
     omega
 · rw [Aj7 mo s z e]
   dsimp only
   have hd := h.d (by omega) (by omega)
   have hu := h.u e
   have hln := Acr z.d z.tag z.ref s z.u hu.1
   have hw := Ahu (p := z.d) (tg := z.tag) (rf := z.ref) (s := s) (o := z.u) hb hu.2.1 hu.2.2.1
   have hov := Abp (o := (Aan z.d z.tag z.ref s z.u).2) (by omega)
   by_cases c : Aa5 (Aan z.d z.tag z.ref s z.u).2 = true
   · rw [if_pos c]
     exact ⟨by unfold mv7; dsimp only; omega, by unfold mv7; dsimp only; omega, fun _ => hn, fun _ => hp, h.t0, h.rf, fun g => absurd g (by unfold mv7; dsimp only; omega), fun _ _ => hd, fun _ => Agu hp hd, fun g => absurd g (by unfold mv7; dsimp only; omega), fun g => absurd g (by unfold mv7; dsimp only; omega), fun g => absurd g (by unfold mv7; dsimp only; omega), fun g => absurd g (by unfold mv7; dsimp only; omega), fun g => absurd g (by unfold mv7; dsimp only; omega)⟩
   · rw [if_neg c]
     rw [hov] at c
     simp at c
     exact ⟨by dsimp only; omega, by dsimp only; omega, fun _ => hn, fun _ => hp, h.t0, h.rf, nnn, fun _ _ => hd, nnn, nnn, nnn, nnn, nnn, fun _ => ⟨by dsimp only; omega, hw.1, hw.2, hu.2.2.2⟩⟩
 · rw [Aj6 mo s z e]
   dsimp only
   split
   · exact Ah2 h hz
   · rename_i c
     exact ⟨by dsimp only; omega, by dsimp only; omega, fun _ => hn, fun _ => hp, h.t0, h.rf, nnn, fun _ _ => h.d (by omega) (by omega), fun _ => (h.m (.inr e)).tail c, nnn, nnn, nnn, nnn, nnn⟩
 · rw [Aj5 mo s z e]
   exact ⟨by dsimp only; omega, by dsimp only; omega, fun _ => hn, fun _ => hp, h.t0, h.rf, nnn, fun _ g => absurd g (by dsimp only; omega), nnn, nnn, nnn, fun _ => by dsimp only; omega, nnn, nnn⟩
 · rw [Aj4 mo s z e]
   have ho := h.o (.inr e)
   have hln := Ab1 z.p s z.o ho.1
   have hw := Ahy (p := z.p) (s := s) (o := z.o) hb ho.2.1 ho.2.2
   dsimp only
   by_cases c : z.o.ln = 2
   · rw [if_pos c, if_pos c]
     exact ⟨by dsimp only; omega, by dsimp only; omega, fun _ => hn, fun _ => hp, h.t0, h.rf, nnn, fun _ g => absurd g (by dsimp only; omega), nnn, fun _ => rfl, nnn, nnn, nnn, nnn⟩
   · rw [if_neg c, if_neg c]
     exact ⟨by dsimp only; omega, by dsimp only; omega, fun _ => hn, fun _ => hp, h.t0, h.rf, nnn, fun _ g => absurd g (by dsimp only; omega), nnn, nnn, nnn, fun _ => ⟨by dsimp only; omega, hw.1, hw.2⟩, nnn, nnn⟩
 · rw [Ah1 mo s z e]
   exact .at (by dsimp only; omega) (by dsimp only; omega) (fun _ => hn) (fun _ => hp) h.t0 h.rf (by dsimp only; omega)
 · rw [Ah0 mo s z e]
   exact Ah2 (.at (by dsimp only; omega) (by dsimp only; omega) (fun _ => hn) (fun _ => hp) h.t0 h.rf (by dsimp only; omega)) (by dsimp only; omega)
end
end Go.Proofs.YtehdnclegipciaaGreat
