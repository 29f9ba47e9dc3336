/- A row of an owner, and what is appended to it. -/
import Derived.Test.YtkpkhibknaoboaaGreatSl
import Derived.Test.YtkpkhibknaoboaaGreatOw
import Derived.Deep.AppendLies
namespace Go.Proofs.YtkpkhibknaoboaaGreat
set_option linter.unusedSimpArgs false
open Go.RowKit
set_option linter.unusedVariables false

structure Row (w : World) (O : Om) (t : Nat) (E : TypeId) (size : Nat) (v : Value) (n : Nat) (xs : List Value) : Prop where
  own : w.ownsRow 0 E size v n xs
  vo : ∀ k, v.ownBlock = some k → O k = t
theorem Row.nil (w : World) (O : Om) (t : Nat) (E : TypeId) (size : Nat) : Row w O t E size (.slice none 0 0) 0 [] := ⟨World.ownsRow_nil _ _ _ _, fun k h => by cases h⟩
theorem Row.ext {S : Nat → Prop} {O O' : Om} {w w' : World} {t size n : Nat} {E : TypeId} {v : Value} {xs : List Value} (h : Row w O t E size v n xs) (e : Ext S O w O' w') (hs : ¬ S t) : Row w' O' t E size v n xs :=
  ⟨e.own h.own fun k hk => by rw [h.vo k hk]; exact hs, fun k hk => (e.lo k (h.own.lt k hk).2).trans (h.vo k hk)⟩
theorem Row.below {O : Om} {w w' : World} {t size n : Nat} {E : TypeId} {v : Value} {xs : List Value} (h : Row w O t E size v n xs) (hb : Below w.heap.size w w') : Row w' O t E size v n xs :=
  ⟨ownsRow_below h.own hb, h.vo⟩
/-- 'append(s, x)' of one element, s the row of owner t. -/
theorem append_row {P : Program} {ops : Array Oper} {rest : List Oper} {o : Oper} {a : Act} {Q : Exit → Act → World → Prop} (w : World) (hgd : o.guard = none) (s x : Operand) (ty : TypeId)
    (ho : o.op = .call { callee := .builtin .append, args := #[s, x], argTypes := #[ty, ty] })
    (e : TypeId) (i : TypeInfo) (z : Value) (size bytes : Nat) (ht : P.underlying ty = some (.slice e)) (hi : P.info? e = some i) (hz : i.zero = some z)
    (hsize : i.size = size) (hby : i.bytes = bytes) (hzs : z.cells.size = size) (hsz : 0 < size) (hbp : 0 < bytes)
    (O : Om) (t : Nat) (ht0 : t ≠ 0) (hhi : ∀ j, O j ≠ 0 → j < w.heap.size)
    (v : Value) (n : Nat) (xs : List Value) (hs : a.eval s = v) (hrow : Row w O t e size v n xs)
    (cs : List Value) (e' : TypeId) (hx : a.eval x = .slice (some ⟨w.heap.size, 0, none⟩) 1 1) (hl : cs.length = size) (h1 : ∀ u ∈ cs, u.oneCell' = true)
    (hbytes : (n + 1) * bytes ≤ 140737488355328)
    (h : ∀ g cap w' O', Ext (fun j => j = t) O w O' w' → Row w' O' t e size (.slice (some ⟨g, 0, none⟩) (n + 1) cap) (n + 1) (xs ++ cs) → wpList P ops Q rest (a.put o.dst (.slice (some ⟨g, 0, none⟩) (n + 1) cap)) w') :
    wpList P ops Q (o :: rest) a (w.alloc (.cells cs.toArray e')) := by
  have hle : n + 1 ≤ (n + 1) * bytes := Nat.le_mul_of_pos_right _ hbp
  refine wpList_append_lies (w.alloc (.cells cs.toArray e')) hgd s x ty ho 0 e i z size bytes ht hi hz hsize hby hzs hsz v n xs hs (hrow.own.alloc _) ⟨w.heap.size, 0, none⟩ 1 1 cs hx (by rw [hl, Nat.one_mul]) (alloc_cells w cs e' _ rfl) h1 (by decide) (by unfold maxLen; omega) hbytes (Nat.zero_le _) (w.heap.size + 1) (by simp) ?_
  intro g cap w' hown hg hat hgl
  have hw : Wrote (fun k => v.ownBlock = some k) w w' := ((Wrote.refl _ _).alloc _).grown hg fun k hk _ => hk
  have hs := hw.size
  have hG : ∀ j, j < w.heap.size → (if j = g then t else O j) = O j := fun j hj => by
    by_cases e : j = g
    · rw [if_pos e]
      rcases hat with e2 | e2
      · subst e; exact (hrow.vo j e2).symm
      · omega
    · rw [if_neg e]
  refine h g cap w' (fun j => if j = g then t else O j) ⟨hG, fun j hj => ?_, fun j hj hn => ?_, hw.mono fun k _ hk => ⟨hrow.vo k hk, by rw [hrow.vo k hk]; exact ht0⟩⟩ ⟨hown, fun k hk => ?_⟩
  · try dsimp only at hj
    by_cases e : j = g
    · omega
    · rw [if_neg e] at hj; have := hhi j hj; omega
  · try dsimp only at hn ⊢
    by_cases e : j = g
    · rw [if_pos e]
    · rw [if_neg e] at hn; have := hhi j hn; omega
  · cases hk
    try dsimp only
    rw [if_pos rfl]
end Go.Proofs.YtkpkhibknaoboaaGreat
