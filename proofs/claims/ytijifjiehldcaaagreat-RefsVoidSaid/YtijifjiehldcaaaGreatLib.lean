/- Small lemmas over any program, for regions that draw their order and hold calls which make memory: one walk of the lexical order, in the class of worlds that hold all that was there ('Later'). -/
import Derived.WalkKit
import Derived.WalkLawsBesides
import Derived.WalkSpells
import Derived.BigQuiet
import Derived.Deep.QuietTactic
import Derived.Lib.Hide
namespace Go.Proofs.YtijifjiehldcaaaGreat
set_option linter.unusedVariables false
set_option linter.unusedSimpArgs false
open Go.RowKit

/-- A world that holds all that was in w. -/
structure Later (w : World) where
  to : World
  below : Below w.heap.size w to
instance (w : World) : Nonempty (Later w) := ⟨⟨w, Below.refl _ _⟩⟩
def via (w : World) (e : Later w) : World := e.to
theorem via_below (w : World) (e : Later w) : Below w.heap.size w (via w e) := e.below
theorem via_size (w : World) (e : Later w) : w.heap.size ≤ (via w e).heap.size := e.below.size
@[simp, go_sem] theorem cell?_via (w : World) (e : Later w) (b o : Nat) (h : b < w.heap.size) : (via w e).cell? ⟨b, o, none⟩ = w.cell? ⟨b, o, none⟩ := e.below.cell (p := ⟨b, o, none⟩) h
@[simp, go_sem] theorem frozen?_via (w : World) (e : Later w) (b o : Nat) (h : b < w.heap.size) : (via w e).frozen? ⟨b, o, none⟩ = w.frozen? ⟨b, o, none⟩ := e.below.frozen (p := ⟨b, o, none⟩) h

@[simp, go_sem] theorem lt_via (w : World) (e : Later w) (n : Nat) (h : n < w.heap.size) : n < (via w e).heap.size := Nat.lt_of_lt_of_le h e.below.size
@[simp, go_sem] theorem le_via (w : World) (e : Later w) (n : Nat) (h : n ≤ w.heap.size) : n ≤ (via w e).heap.size := Nat.le_trans h e.below.size
theorem below_via {a w : World} (h : Below a.heap.size a w) (e : Later w) : Below a.heap.size a (via w e) := h.trans (e.below.mono h.size)
def Later.andThen {w : World} (e : Later w) (e2 : Later (via w e)) : Later w := ⟨e2.to, e.below.trans (e2.below.mono e.below.size)⟩
theorem via_via (w : World) (e : Later w) (e2 : Later (via w e)) : via (via w e) e2 = via w (e.andThen e2) := rfl
theorem below_alloc {a w : World} (h : Below a.heap.size a w) (o : Obj) : Below a.heap.size a (w.alloc o) := h.alloc h.size o
theorem below_setCell {a w : World} (h : Below a.heap.size a w) {b : Nat} (hb : a.heap.size ≤ b) (o : Nat) (u : Value) : Below a.heap.size a (w.setCell ⟨b, o, none⟩ u) := h.setCell (p := ⟨b, o, none⟩) hb u
theorem gen_world {P : World → Prop} {w0 : World} (C : World → Prop) (h : ∀ W, C W → P W) (h0 : C w0) : P w0 := h w0 h0
/-- A contract that ends in 'Below', for a walk: the world behind the call is 'via w m'. -/
theorem viaC {P : Program} {f : FuncId} {args : Array Value} {w : World} {v : Value}
    (h : Calls P f args w fun x w' => x = .returned v ∧ Below w.heap.size w w') : Calls P f args w fun x w' => x = .returned v ∧ ∃ m, w' = via w m :=
  h.mono fun _ w' ⟨he, hm⟩ => ⟨he, ⟨w', hm⟩, rfl⟩
theorem wp_region_via {P : Program} {id : Nat} {Q : Exit → Act → World → Prop} {a : Act} {w : World} {l : List Oper} (hm : P.follows .mixedOrders = true) (hB : Region.lexB .any l.toArray = true)
    (h : wpQuiet P l.toArray (fun w' => ∃ e, w' = via w e) (fun a' => ∀ w', (∃ e, w' = via w e) → Q .normal a' w') l a) : (Code.region id l.toArray true).wp P Q a w :=
  wp_region_quiet (C := fun w' => ∃ e, w' = via w e) hm hB ⟨⟨w.drew, (Below.refl _ _).drew⟩, rfl⟩ (by simpa using h)

theorem viaB {P : Program} {f : FuncId} {args : Array Value} {w : World} {e : Later w} {v : Value}
    (h : Calls P f args (via w e) fun x w' => x = .returned v ∧ Below (via w e).heap.size (via w e) w') : Calls P f args (via w e) fun x w'' => x = .returned v ∧ ∃ m, w'' = via w m :=
  h.mono fun _ w' ⟨he, hm⟩ => ⟨he, ⟨w', e.below.trans (hm.mono e.below.size)⟩, rfl⟩
theorem viaS {P : Program} {f : FuncId} {args : Array Value} {w : World} {e : Later w} {v : Value}
    (h : Calls P f args (via w e) fun x w' => x = .returned v ∧ via w e = w') : Calls P f args (via w e) fun x w'' => x = .returned v ∧ ∃ m, w'' = via w m :=
  h.mono fun _ _ ⟨he, hm⟩ => ⟨he, e, hm.symm⟩
theorem quietS {P : Program} {f : FuncId} {args : Array Value} {w : World} {n : Nat} {v : Value}
    (h : Calls P f args (w.drewN n) fun e w' => e = .returned v ∧ w.drewN n = w') : Calls P f args (w.drewN n) fun e w'' => e = .returned v ∧ ∃ m, w'' = w.drewN m :=
  h.mono fun _ _ ⟨he, hm⟩ => ⟨he, n, hm.symm⟩

theorem ret_int {k : IntKind} {a b : Int} (h : a = b) : Ending.returned (.int k a) = .returned (.int k b) := by rw [h]
theorem ret_bool {a b : Bool} (h : a = b) : Ending.returned (.bool a) = .returned (.bool b) := by rw [h]
theorem take_snoc (s : ByteArray) (k : Nat) (h : k < s.size) : s.data.toList.take (k + 1) = s.data.toList.take k ++ [s[k]] := by
  rw [List.take_succ_eq_append_getElem (by simpa using h)]; rfl

/-- What a contract that ends in 'Below' gives the walk: all old cells and marks read as before. -/
theorem bcell {B : Nat} {W w1 : World} (hb : Below B W w1) : (∀ b o, b < B → w1.cell? ⟨b, o, none⟩ = W.cell? ⟨b, o, none⟩) ∧ (∀ b o, b < B → w1.frozen? ⟨b, o, none⟩ = W.frozen? ⟨b, o, none⟩) :=
  ⟨fun b o h => hb.cell (p := ⟨b, o, none⟩) h, fun b o h => hb.frozen (p := ⟨b, o, none⟩) h⟩

/-- '[]byte(s)': a new row of the bytes, whatever capacity the tape gives, none of them frozen; all that was there stands. -/
theorem bytes_of {P : Program} (w : World) (src dst e : TypeId) (s : ByteArray) (hs : P.underlying src = some .string) (hd : P.underlying dst = some (.slice e)) (he : P.underlying e = some (.int .u8)) :
    ∃ (b C : Nat) (w' : World), (convert src dst (.string s)).run P w = .ok (.slice (some ⟨b, 0, none⟩) s.size C) w' ∧ w.heap.size ≤ b ∧ b < w'.heap.size ∧ s.size ≤ C ∧ Below w.heap.size w w' ∧
      (∀ (k : Nat) (h : k < s.size), w'.cell? ⟨b, k, none⟩ = some (.int .u8 (s[k].toNat : Int)) ∧ w'.frozen? ⟨b, k, none⟩ = false) := by
  refine ⟨_, _, _, run_bytes_of_string w src dst e s hs hd he, Nat.le_refl _, by simp, grownCap_ge _ _ _ _, ((Below.refl _ _).alloc (Nat.le_refl _) _).drew, fun k h => ⟨?_, ?_⟩⟩
  · exact (World.cell?_alloc_mark w.drew _ _ _ _).trans (bytesRow_at s _ k h)
  · refine (World.frozen?_alloc_mark w.drew _ _ _ _ _).trans ?_
    have : k < (bytesRow s (grownCap w s.size 0 e)).size := (Array.getElem?_eq_some_iff.1 (bytesRow_at s (grownCap w s.size 0 e) k h)).1
    simp; omega
end Go.Proofs.YtijifjiehldcaaaGreat
