/- What the notes' lists tell; a word of tags that is empty; a world's Config: its quantum. -/
import Derived.Test.YtfnmdafpdcgcmaaGreatZX
import Derived.Test.YtfnmdafpdcgcmaaGreatZL
namespace Go.Proofs.YtfnmdafpdcgcmaaGreat
set_option linter.unusedSimpArgs false
set_option linter.unusedVariables false
open Go.RowKit
def ntDr (ref : Int) : List Nt → Nat → Nat × Bool → Nat × Bool
 | [], _, a => a
 | n :: l, i, a => ntDr ref l (i + 1) (if n.kind = 1 ∧ n.ref = ref then (i, true) else a)
theorem ntDr_append (ref : Int) (l m : List Nt) : ∀ i a, ntDr ref (l ++ m) i a = ntDr ref m (i + l.length) (ntDr ref l i a) := by
 induction l with
 | nil => intro i a; rfl
 | cons n l ih =>
   intro i a
   simp only [List.cons_append, ntDr, ih, List.length_cons, show i + 1 + l.length = i + (l.length + 1) by omega]
theorem ntDr_snoc (ref : Int) (l : List Nt) (n : Nt) : ntDr ref (l ++ [n]) 0 (0, false) = if n.kind = 1 ∧ n.ref = ref then (l.length, true) else ntDr ref l 0 (0, false) := by
 rw [ntDr_append, Nat.zero_add]
 rfl
def ntDropped (ref : Int) (l : List Nt) : Nat × Bool := ntDr ref l 0 (0, false)
theorem ntDropped_take (ref : Int) (l : List Nt) (k : Nat) (hk : k < l.length) : ntDropped ref (l.take (k + 1)) = if l[k].kind = 1 ∧ l[k].ref = ref then (k, true) else ntDropped ref (l.take k) := by
 unfold ntDropped
 rw [List.take_succ_eq_append_getElem hk, ntDr_snoc, List.length_take, Nat.min_eq_left (by omega)]
def ntOf (l : List Nt) (k : Int) : List Nt := l.filter fun n => decide (n.kind = k)
theorem tw_zero {w : Int} (w0 : 0 ≤ w) (w1 : w < 4294967296) (h : ∀ s, 0 ≤ s → s ≤ 3 → twTag w s = 0) : w = 0 := by
 have h0 := h 0 (by omega) (by omega)
 have h1 := h 1 (by omega) (by omega)
 have h2 := h 2 (by omega) (by omega)
 have h3 := h 3 (by omega) (by omega)
 rw [twTag0] at h0; rw [twTag1] at h1; rw [twTag2] at h2; rw [twTag3] at h3
 omega
section
variable {O : Om} {w : World} {B : Wb} {b g u q y : Int} {s : AW}
theorem PW.setQu (h : PW w O B ⟨b, g, u, q, y⟩ s) (hhi : ∀ j, O j ≠ 0 → j < w.heap.size) (v : Int) : PW (w.setCell ⟨B.p, 6, none⟩ (.int .i64 v)) O B ⟨b, g, u, v, y⟩ s ∧ Ext (fun t => t = 1) O w O (w.setCell ⟨B.p, 6, none⟩ (.int .i64 v)) := by
 have e : Ext (fun t => t = 1) O w O (w.setCell ⟨B.p, 6, none⟩ (.int .i64 v)) := Ext.of_set hhi h.o (by decide) rfl
 have hc : ∀ i, i ≠ 6 → (w.setCell ⟨B.p, 6, none⟩ (.int .i64 v)).cell? ⟨B.p, i, none⟩ = w.cell? ⟨B.p, i, none⟩ := fun i hi => World.cell?_setCell_other _ _ _ _ (by simp; try omega)
 have k := h.wo
 exact ⟨⟨h.o, ⟨(hc 0 (by omega)).trans k.c0, (hc 1 (by omega)).trans k.c1, (hc 2 (by omega)).trans k.c2, (hc 3 (by omega)).trans k.c3, (hc 4 (by omega)).trans k.c4, (hc 5 (by omega)).trans k.c5, World.cell?_setCell_same _ _ _ k.c6, (hc 7 (by omega)).trans k.c7, fun i hi => (hc _ (by omega)).trans (k.tk i hi), (hc 72 (by omega)).trans k.ho, fun i => (World.frozen?_setCell _ _ _ _).trans (k.fr i), by simpa using k.lt⟩, h.ce.ext e (by decide) (by decide), h.ar.ext e (by decide), h.no.ext e (by decide)⟩, e⟩
end
end Go.Proofs.YtfnmdafpdcgcmaaGreat
