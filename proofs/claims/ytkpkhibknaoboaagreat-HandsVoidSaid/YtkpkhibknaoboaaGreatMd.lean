/- The document's world and an object that a method is at. -/
import Derived.Test.YtkpkhibknaoboaaGreatRw
import Derived.Test.YtkpkhibknaoboaaGreatTk
import Derived.Test.YtkpkhibknaoboaaGreatFlN
namespace Go.Proofs.YtkpkhibknaoboaaGreat
set_option linter.unusedSimpArgs false
open Go.RowKit
set_option linter.unusedVariables false

section
variable {O : Om} {w : World} {B : Wb} {f : Cf} {s : AW} {m : Nat}
theorem RW.setTk (h : RW w O B f s m) (hhi : ∀ j, O j ≠ 0 → j < w.heap.size) (j : Nat) (hj : j < 64) (v : Int) : RW (w.setCell ⟨B.p, 8 + j, none⟩ (.int .u64 v)) O B f ⟨s.M, s.n, s.la, updN s.tk j v, s.ho, s.it, s.nt⟩ m ∧ Ext (fun t => t = 5) O w O (w.setCell ⟨B.p, 8 + j, none⟩ (.int .u64 v)) := by
  have e : Ext (fun t => t = 5) O w O (w.setCell ⟨B.p, 8 + j, none⟩ (.int .u64 v)) := Ext.of_set hhi h.o (by decide) rfl
  have hc : ∀ i, i ≠ 8 + j → (w.setCell ⟨B.p, 8 + j, none⟩ (.int .u64 v)).cell? ⟨B.p, i, none⟩ = w.cell? ⟨B.p, i, none⟩ := fun i hi => World.cell?_setCell_other _ _ _ _ (by simp; try omega)
  have k := h.wo
  refine ⟨⟨h.o, ⟨(hc 0 (by omega)).trans k.c0, (hc 1 (by omega)).trans k.c1, (hc 2 (by omega)).trans k.c2, (hc 3 (by omega)).trans k.c3, (hc 4 (by omega)).trans k.c4, (hc 5 (by omega)).trans k.c5, (hc 6 (by omega)).trans k.c6, (hc 7 (by omega)).trans k.c7, fun i hi => ?_, (hc 72 (by omega)).trans k.ho, fun i => (World.frozen?_setCell _ _ _ _).trans (k.fr i), by simpa using k.lt⟩, h.ce.ext e (by decide), h.ar.ext e (by decide), h.no.ext e (by decide)⟩, e⟩
  by_cases hij : i = j
  · subst hij
    show _ = some (Value.int .u64 (if i = i then v else s.tk i))
    rw [if_pos rfl]
    exact World.cell?_setCell_same _ _ _ (k.tk i hi)
  · show _ = some (Value.int .u64 (if i = j then v else s.tk i))
    rw [if_neg hij]
    exact (hc _ (by omega)).trans (k.tk i hi)
theorem RW.setHo (h : RW w O B f s m) (hhi : ∀ j, O j ≠ 0 → j < w.heap.size) (v : Int) : RW (w.setCell ⟨B.p, 72, none⟩ (.int .i64 v)) O B f ⟨s.M, s.n, s.la, s.tk, v, s.it, s.nt⟩ m ∧ Ext (fun t => t = 5) O w O (w.setCell ⟨B.p, 72, none⟩ (.int .i64 v)) := by
  have e : Ext (fun t => t = 5) O w O (w.setCell ⟨B.p, 72, none⟩ (.int .i64 v)) := Ext.of_set hhi h.o (by decide) rfl
  have hc : ∀ i, i ≠ 72 → (w.setCell ⟨B.p, 72, none⟩ (.int .i64 v)).cell? ⟨B.p, i, none⟩ = w.cell? ⟨B.p, i, none⟩ := fun i hi => World.cell?_setCell_other _ _ _ _ (by simp; try omega)
  have k := h.wo
  exact ⟨⟨h.o, ⟨(hc 0 (by omega)).trans k.c0, (hc 1 (by omega)).trans k.c1, (hc 2 (by omega)).trans k.c2, (hc 3 (by omega)).trans k.c3, (hc 4 (by omega)).trans k.c4, (hc 5 (by omega)).trans k.c5, (hc 6 (by omega)).trans k.c6, (hc 7 (by omega)).trans k.c7, fun i hi => (hc _ (by omega)).trans (k.tk i hi), World.cell?_setCell_same _ _ _ k.ho, fun i => (World.frozen?_setCell _ _ _ _).trans (k.fr i), by simpa using k.lt⟩, h.ce.ext e (by decide), h.ar.ext e (by decide), h.no.ext e (by decide)⟩, e⟩
end
/-- The document's world's owners, and those from a to b. -/
def SD (a b t : Nat) : Prop := SR t ∨ (a ≤ t ∧ t ≤ b)
theorem SD.not {a b t : Nat} (h : 9 ≤ t) (h2 : t < a ∨ b < t) : ¬ SD a b t := fun k => by unfold SD SR at k; omega
theorem SD.mono {a b c d t : Nat} (h1 : c ≤ a) (h2 : b ≤ d) (h : SD a b t) : SD c d t := by unfold SD SR at h ⊢; omega
/-- The document's world and an object that a method is at. -/
structure Md (a b : Nat) (w0 : World) (O0 : Om) (w : World) (O : Om) (B : Wb) (f : Cf) (s : AW) (m k T : Nat) (cs : List Value) : Prop where
  e : Ext (SD a b) O0 w0 O w
  p : RW w O B f s m
  t : Ob w O k T cs
section
variable {a b k T m m1 : Nat} {cs : List Value} {O O0 O1 : Om} {w w1 w0 : World} {B : Wb} {f : Cf} {s s1 : AW}
theorem Md.start (hhi : ∀ j, O j ≠ 0 → j < w.heap.size) (hp : RW w O B f s m) (ht : Ob w O k T cs) : Md a b w O w O B f s m k T cs := ⟨Ext.refl hhi, hp, ht⟩
theorem Md.set (h : Md a b w0 O0 w O B f s m k T cs) (hk : 10 ≤ k) (ha : a ≤ k) (hb : k ≤ b) (j : Nat) (v : Value) (hj : j < cs.length) : Md a b w0 O0 (w.setCell ⟨T, j, none⟩ v) O B f s m k T (cs.set j v) := by
  have e : Ext (fun t => t = k) O w O (w.setCell ⟨T, j, none⟩ v) := Ext.of_set h.e.hi h.t.o (by omega) rfl
  exact ⟨h.e.trans (e.mono fun t _ ht => .inr (by omega)), h.p.ext e (by omega) (by omega) (by omega) (by omega), h.t.set j v hj⟩
theorem Md.drew (h : Md a b w0 O0 w O B f s m k T cs) : Md a b w0 O0 w.drew O B f s m k T cs := ⟨h.e.drew, h.p.below h.e.hi (drew_below w), h.t.below (drew_below w)⟩
theorem Md.below (h : Md a b w0 O0 w O B f s m k T cs) (hb : Below w.heap.size w w1) : Md a b w0 O0 w1 O B f s m k T cs := ⟨h.e.below hb, h.p.below h.e.hi hb, h.t.below hb⟩
theorem Md.world (h : Md a b w0 O0 w O B f s m k T cs) (hk : 10 ≤ k) (e : Ext SR O w O1 w1) (hp : RW w1 O1 B f s1 m1) : Md a b w0 O0 w1 O1 B f s1 m1 k T cs := ⟨h.e.trans (e.mono fun t _ ht => .inl ht), hp, h.t.ext e fun h => by have := h.2; omega⟩
theorem Md.setTk (h : Md a b w0 O0 w O B f s m k T cs) (hk : 10 ≤ k) (j : Nat) (hj : j < 64) (v : Int) : Md a b w0 O0 (w.setCell ⟨B.p, 8 + j, none⟩ (.int .u64 v)) O B f ⟨s.M, s.n, s.la, updN s.tk j v, s.ho, s.it, s.nt⟩ m k T cs := by
  obtain ⟨p1, e1⟩ := h.p.setTk h.e.hi j hj v
  exact ⟨h.e.trans (e1.mono fun t _ ht => .inl (by unfold SR; omega)), p1, h.t.ext e1 (by omega)⟩
theorem Md.setHo (h : Md a b w0 O0 w O B f s m k T cs) (hk : 10 ≤ k) (v : Int) : Md a b w0 O0 (w.setCell ⟨B.p, 72, none⟩ (.int .i64 v)) O B f ⟨s.M, s.n, s.la, s.tk, v, s.it, s.nt⟩ m k T cs := by
  obtain ⟨p1, e1⟩ := h.p.setHo h.e.hi v
  exact ⟨h.e.trans (e1.mono fun t _ ht => .inl (by unfold SR; omega)), p1, h.t.ext e1 (by omega)⟩
theorem Md.call {c d : Nat} (h : Md a b w0 O0 w O B f s m k T cs) (hk : 10 ≤ k) (hkc : k < c ∨ d < k) (ha : a ≤ c) (hb : d ≤ b) (e : Ext (SD c d) O w O1 w1) (hp : RW w1 O1 B f s1 m1) : Md a b w0 O0 w1 O1 B f s1 m1 k T cs :=
  ⟨h.e.trans (e.mono fun t _ ht => SD.mono ha hb ht), hp, h.t.ext e (SD.not (by omega) hkc)⟩
theorem Md.rp {v : Value} (h : Md a b w0 O0 w O B f s m k T cs) : RP (SD a b) w0 O0 v (fun W G => RW W G B f s m ∧ Ob W G k T cs) (.returned v) w := ⟨rfl, O, h.e, h.p, h.t⟩
end
end Go.Proofs.YtkpkhibknaoboaaGreat
