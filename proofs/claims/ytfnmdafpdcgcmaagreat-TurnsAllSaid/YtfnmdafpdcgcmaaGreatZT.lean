/- Layer 20: how often each item is noted as dropped (nestboxlaw20.drops). Layer 20: what the laws' local variables hold. -/
import Derived.Test.YtfnmdafpdcgcmaaGreatZS
import Derived.Test.YtfnmdafpdcgcmaaGreatZY
import Derived.Test.YtfnmdafpdcgcmaaGreatZX
import Derived.Test.YtfnmdafpdcgcmaaGreatZ3
namespace Go.Proofs.YtfnmdafpdcgcmaaGreat
set_option linter.unusedSimpArgs false
section
set_option linter.unusedVariables false
open Go.RowKit Go.Shelf
def ld64 (a : Addr) : Sem (Array Value) := loadCellsFrom a 0 64 #[]
@[go_sem ↓] theorem run_ld64 (P : Program) (a : Addr) (W : World) : Sem.run P (loadCellsFrom a 0 64 #[]) W = Sem.run P (ld64 a) W := rfl
@[go_sem ↓] theorem run_ld64' (P : Program) (a : Addr) (W : World) : Sem.run P (loadCells a 64) W = Sem.run P (ld64 a) W := rfl
def B64 (W : World) (b : Nat) (I : Nat → Int) : Prop := W.heap[b]? = some (.cells (ir .i64 I 64).toArray 45 (0, 0))
theorem B64.lt {W : World} {b : Nat} {I : Nat → Int} (h : B64 W b I) : b < W.heap.size := by
 rcases Nat.lt_or_ge b W.heap.size with q | q
 · exact q
 · unfold B64 at h; rw [Array.getElem?_eq_none q] at h; cases h
theorem B64.below {W W' : World} {b : Nat} {I : Nat → Int} (h : B64 W b I) (hb : Below W.heap.size W W') : B64 W' b I := (hb.block b h.lt).trans h
theorem ir64_congr {kd : IntKind} {I J : Nat → Int} (h : ∀ j, j < 64 → I j = J j) : ir kd I 64 = ir kd J 64 := by
 unfold ir
 refine List.map_congr_left fun j hj => ?_
 have := List.mem_range.1 hj
 rw [if_pos this, if_pos this, h j this]
theorem drC_bd (k : Int) (l : List Nt) (r : Nat) : 0 ≤ drC k l r ∧ drC k l r ≤ l.length := by
 unfold drC
 have := List.countP_le_length (p := fun x : Nt => x.kind == k && x.ref == (r : Int)) (l := l)
 omega
end
section
set_option linter.unusedVariables false
open Go.RowKit Go.Shelf
structure B6 (W : World) (G : Om) (b : Nat) (I : Nat → Int) : Prop where
 o : G b = 0
 h : B64 W b I
theorem B6.below {W W' : World} {G : Om} {b : Nat} {I : Nat → Int} (h : B6 W G b I) (hb : Below W.heap.size W W') : B6 W' G b I := ⟨h.o, h.h.below hb⟩
theorem B6.ext {S : Nat → Prop} {W W' : World} {G G' : Om} {b : Nat} {I : Nat → Int} (h : B6 W G b I) (e : Ext S G W G' W') (hs : ¬ S 0) : B6 W' G' b I :=
 ⟨(e.lo b h.h.lt).trans h.o, (e.wr.block b h.h.lt fun k => hs (by have := k.1; rwa [h.o] at this)).trans h.h⟩
theorem B6.row {W : World} {G : Om} {I : Nat → Int} {R : Array Value} (hR : R = (ir .i64 I 64).toArray) (hhi : ∀ j, G j ≠ 0 → j < W.heap.size) {W' : World} (hW : (W.alloc (.cells (List.replicate 64 (.int .i64 0)).toArray 45)).setRow W.heap.size R = W') :
 B6 W' G W.heap.size I ∧ Below W.heap.size W W' := by
 subst hW
 refine ⟨⟨?_, ?_⟩, below_setRow ((Below.refl _ _).alloc (Nat.le_refl _) _) (Nat.le_refl _) _⟩
 · by_cases q : G W.heap.size = 0
   · exact q
   · exact absurd (hhi _ q) (by omega)
 · unfold B64
   rw [← hR]
   exact setRow_heap _ W.heap.size _ R _ _ (heap_alloc_new W (.cells (List.replicate 64 (.int .i64 0)).toArray 45))
theorem itOf_ful {ks : List ByteArray} (h : ∀ k ∈ ks, k.size ≤ maxLen) (r : Int) : (itOf (ks.map fulIt) r).key.size ≤ maxLen := by
 unfold itOf
 split
 · cases e : (ks.map fulIt)[(r - 1).toNat]? with
   | none => show (0 : Nat) ≤ maxLen; unfold maxLen; omega
   | some x =>
     rw [List.getElem?_map] at e
     cases e2 : ks[(r - 1).toNat]? with
     | none => rw [e2] at e; cases e
     | some k =>
       rw [e2] at e
       cases e
       exact h k (List.mem_of_getElem? e2)
 · show (0 : Nat) ≤ maxLen; unfold maxLen; omega
theorem B6.cell {W : World} {G : Om} {b r : Nat} {I : Nat → Int} (h : B6 W G b I) (hr : r < 64) : W.cell? ⟨b, r, none⟩ = some (.int .i64 (I r)) := cell_of_blk h.h (ir64_get hr)
end
end Go.Proofs.YtfnmdafpdcgcmaaGreat
