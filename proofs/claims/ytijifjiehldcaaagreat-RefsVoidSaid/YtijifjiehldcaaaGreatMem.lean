/- Over any program: a world that is another one but for some blocks and new ones ('Wrote'). -/
import Derived.Test.YtijifjiehldcaaaGreatSl
import Derived.Deep.AppendLies
namespace Go.Proofs.YtijifjiehldcaaaGreat
set_option linter.unusedSimpArgs false
open Go.RowKit
set_option linter.unusedVariables false

/-- w' is w, but for the blocks S and new ones. -/
structure Wrote (S : Nat → Prop) (w w' : World) : Prop where
  os : w'.os = w.os
  tape : w'.tape = w.tape
  output : w'.output = w.output
  size : w.heap.size ≤ w'.heap.size
  block : ∀ k, k < w.heap.size → ¬ S k → w'.heap[k]? = w.heap[k]?
theorem Wrote.refl (S : Nat → Prop) (w : World) : Wrote S w w := ⟨rfl, rfl, rfl, Nat.le_refl _, fun _ _ _ => rfl⟩
theorem Wrote.trans {S T : Nat → Prop} {a b c : World} (h : Wrote S a b) (k : Wrote T b c) (hT : ∀ n, n < a.heap.size → T n → S n) : Wrote S a c :=
  ⟨k.os.trans h.os, k.tape.trans h.tape, k.output.trans h.output, Nat.le_trans h.size k.size, fun i hi hn => (k.block i (Nat.lt_of_lt_of_le hi h.size) fun ht => hn (hT i hi ht)).trans (h.block i hi hn)⟩
theorem Wrote.mono {S T : Nat → Prop} {a b : World} (h : Wrote S a b) (hT : ∀ n, n < a.heap.size → S n → T n) : Wrote T a b := ⟨h.os, h.tape, h.output, h.size, fun i hi hn => h.block i hi fun hs => hn (hT i hi hs)⟩
theorem Wrote.drew {S : Nat → Prop} {a b : World} (h : Wrote S a b) : Wrote S a b.drew := ⟨h.os, h.tape, h.output, h.size, h.block⟩
theorem Wrote.drewN {S : Nat → Prop} {a b : World} (h : Wrote S a b) (n : Nat) : Wrote S a (b.drewN n) := ⟨h.os, h.tape, h.output, h.size, h.block⟩
theorem Wrote.of_below {S : Nat → Prop} {w w' : World} (h : Below w.heap.size w w') : Wrote S w w' := ⟨h.os, h.tape, h.output, h.size, fun k hk _ => h.block k hk⟩
theorem Wrote.below {S : Nat → Prop} {w w' : World} {B : Nat} (h : Wrote S w w') (hS : ∀ k, k < w.heap.size → S k → B ≤ k) (hB : B ≤ w.heap.size) : Below B w w' :=
  ⟨h.os, h.tape, h.output, h.size, fun k hk => h.block k (by omega) fun hs => by have := hS k (by omega) hs; omega⟩
theorem Wrote.alloc {S : Nat → Prop} {a b : World} (h : Wrote S a b) (o : Obj) : Wrote S a (b.alloc o) :=
  h.trans (T := fun _ => False) ⟨rfl, rfl, rfl, by simp, fun k hk _ => Below.heap_alloc _ _ _ hk⟩ fun _ _ hf => hf.elim
theorem Wrote.setCell {S : Nat → Prop} {a b : World} (h : Wrote S a b) {p : Addr} (hp : p.block < a.heap.size → S p.block) (u : Value) : Wrote S a (b.setCell p u) :=
  h.trans (T := fun k => k = p.block) ⟨rfl, rfl, rfl, by simp [World.setCell], fun k hk hn => Below.heap_setCell _ _ _ _ hn⟩ fun n hn e => by subst e; exact hp hn
theorem Wrote.grown {S : Nat → Prop} {a w w' : World} {row : Option Nat} (h : Wrote S a w) (hg : w.grownBy w' row) (hr : ∀ k, row = some k → k < a.heap.size → S k) : Wrote S a w' :=
  h.trans (T := fun k => some k = row) ⟨hg.os, hg.tape, hg.output, hg.size, fun k hk hn => hg.block k hk hn⟩ fun n hn e => hr n e.symm hn
theorem Wrote.cell {S : Nat → Prop} {w w' : World} (h : Wrote S w w') {p : Addr} (hp : p.block < w.heap.size) (hn : ¬ S p.block) : w'.cell? p = w.cell? p := World.cell?_of_block (w := w) (h.block p.block hp hn)
theorem Wrote.frozen {S : Nat → Prop} {w w' : World} (h : Wrote S w w') {p : Addr} (hp : p.block < w.heap.size) (hn : ¬ S p.block) : w'.frozen? p = w.frozen? p := World.frozen?_of_block (w := w) (h.block p.block hp hn)
theorem Wrote.own {S : Nat → Prop} {w w' : World} (h : Wrote S w w') {base : Nat} {e : TypeId} {size : Nat} {v : Value} {n : Nat} {xs : List Value} (ho : w.ownsRow base e size v n xs) (hn : ∀ k, v.ownBlock = some k → ¬ S k) : w'.ownsRow base e size v n xs := by
  refine ⟨ho.1, ?_⟩
  rcases ho.2 with h0 | ⟨g, cap, cur, hv, hbs, hg, rest⟩
  · exact .inl h0
  · exact .inr ⟨g, cap, cur, hv, hbs, (h.block g (Array.getElem?_eq_some_iff.1 hg).1 (hn g (by rw [hv]; rfl))).trans hg, rest⟩
theorem Arr.wrote {S : Nat → Prop} {w w' : World} {v : Value} {n size : Nat} {xs : List Value} (h : Arr w v n size xs) (hw : Wrote S w w') (hn : ∀ a m c, v = .slice (some a) m c → ¬ S a.block) : Arr w' v n size xs := by
  obtain ⟨hl, ao, c, rfl, hc, hm, hx⟩ := h
  refine ⟨hl, ao, c, rfl, hc, hm, fun j u hu => ?_⟩
  obtain ⟨b, o, rfl, hlt, hcell⟩ := hx j u hu
  exact ⟨b, o, rfl, Nat.lt_of_lt_of_le hlt hw.size, (hw.cell (p := ⟨b, o + j, none⟩) hlt (hn ⟨b, o, none⟩ _ _ rfl)).trans hcell⟩
end Go.Proofs.YtijifjiehldcaaaGreat
