/- Layer 9: a list of notes in memory. -/
import Derived.Test.YtijifjiehldcaaaGreatMem
import Derived.Test.YtijifjiehldcaaaGreatNtPlain
namespace Go.Proofs.YtijifjiehldcaaaGreat
set_option linter.unusedSimpArgs false
open Go.RowKit
set_option linter.unusedVariables false

/-- In block h lies the header of a list of notes: its slice v owns the cells of l. -/
structure NL (w : World) (E : TypeId) (f : Nt → List Value) (h : Nat) (v : Value) (l : List Nt) : Prop where
  head : w.cell? ⟨h, 0, none⟩ = some v
  free : w.frozen? ⟨h, 0, none⟩ = false
  lt : h < w.heap.size
  apart : v.ownBlock ≠ some h
  own : w.ownsRow 0 E 8 v l.length (rowOf f l)
/-- What belongs to such a list. -/
def NLset (h : Nat) (v : Value) : Nat → Prop := fun k => k = h ∨ v.ownBlock = some k
theorem NL.lts {w : World} {E : TypeId} {f : Nt → List Value} {h : Nat} {v : Value} {l : List Nt} (n : NL w E f h v l) : ∀ k, NLset h v k → k < w.heap.size := by
  rintro k (rfl | hk)
  · exact n.lt
  · exact (n.own.lt k hk).2
theorem NL.wrote {S : Nat → Prop} {w w' : World} {E : TypeId} {f : Nt → List Value} {h : Nat} {v : Value} {l : List Nt} (n : NL w E f h v l) (hw : Wrote S w w') (hs : ∀ k, NLset h v k → ¬ S k) : NL w' E f h v l :=
  ⟨(hw.cell (p := ⟨h, 0, none⟩) n.lt (hs h (.inl rfl))).trans n.head, (hw.frozen (p := ⟨h, 0, none⟩) n.lt (hs h (.inl rfl))).trans n.free, Nat.lt_of_lt_of_le n.lt hw.size, n.apart, hw.own n.own fun k hk => hs k (.inr hk)⟩
theorem NL.below {w w' : World} {E : TypeId} {f : Nt → List Value} {h : Nat} {v : Value} {l : List Nt} (n : NL w E f h v l) (hw : Below w.heap.size w w') : NL w' E f h v l :=
  n.wrote (S := fun _ => False) (Wrote.of_below hw) fun _ _ hf => hf
theorem nt_cells {f : Nt → List Value} (hf : ∀ a, (f a).length = 8) {l : List Nt} {w : World} {b o : Nat} (h : ∀ j u, (rowOf f l)[j]? = some u → w.cell? ⟨b, o + j, none⟩ = some u) (i : Nat) (hi : i < l.length) (j : Nat) (hj : j < 8) {u : Value} (hu : (f l[i])[j]? = some u) :
    w.cell? ⟨b, o + (i * 8 + j), none⟩ = some u := h _ _ ((rowOf_get hf l i j hi hj).trans hu)

end Go.Proofs.YtijifjiehldcaaaGreat
