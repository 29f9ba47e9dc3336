/- Layer 27: a new Flush; what it got. -/
import Derived.Test.YtkamcgcpfnkodaaGreatFl
namespace Go.Proofs.YtkamcgcpfnkodaaGreat
set_option linter.unusedSimpArgs false
open Go.RowKit
set_option linter.unusedVariables false

def flNew : Flm := ⟨1, ⟨1, 0, false⟩, 0, 0, 0⟩
/-- A block that stands, ahead of a new one. -/
theorem Ob.alloc {O : Om} {w : World} {g b g2 : Nat} {cs : List Value} (h : Ob w O g b cs) (o : Obj) : Ob (w.alloc o) (newOwn O w.heap.size (w.heap.size + 1) g2) g b cs :=
  ⟨by unfold newOwn; rw [if_neg (by have := h.lt; omega)]; exact h.o, by have := h.lt; simp; omega, fun j u hu => (((Below.refl w.heap.size w).alloc (Nat.le_refl _) o).cell (p := ⟨b, j, none⟩) h.lt).trans (h.c j u hu), fun j => (((Below.refl w.heap.size w).alloc (Nat.le_refl _) o).frozen (p := ⟨b, j, none⟩) h.lt).trans (h.f j)⟩
theorem alloc_ob {O : Om} {w : World} (hhi : ∀ j, O j ≠ 0 → j < w.heap.size) (g : Nat) (cs : Array Value) (ty : TypeId) (n : Nat) (hn : n = w.heap.size) :
    ∃ O', Ext (fun j => j = g) O w O' (w.alloc (.cells cs ty)) ∧ Ob (w.alloc (.cells cs ty)) O' g n cs.toList ∧ ∀ g' b' ds, Ob w O g' b' ds → Ob (w.alloc (.cells cs ty)) O' g' b' ds := by
  subst hn
  exact ⟨_, Ext.alloc (S := fun j => j = g) (g := g) hhi rfl (.cells cs ty), Ob.new w O g cs ty, fun g' b' ds h => h.alloc _⟩
/-- An answer of a kind alone. -/
def anV (an : Int) : Value := .agg #[.int .u8 an, .int .u64 0, .string ⟨#[]⟩, .string ⟨#[]⟩, .int .u32 0, .int .u64 0, .int .i64 0, .int .i64 0]
end Go.Proofs.YtkamcgcpfnkodaaGreat
