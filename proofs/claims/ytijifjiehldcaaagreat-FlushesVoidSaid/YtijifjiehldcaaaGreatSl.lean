/- Slices over any program: what a slice value reads as in a world ('Arr'), whatever block it lies in; rows of structs. -/
import Derived.Test.YtijifjiehldcaaaGreatLib
namespace Go.Proofs.YtijifjiehldcaaaGreat
set_option linter.unusedVariables false
set_option linter.unusedSimpArgs false
open Go.RowKit

/-- The value v is a slice of n elements of 'size' cells each; in w these cells hold xs. -/
def Arr (w : World) (v : Value) (n size : Nat) (xs : List Value) : Prop :=
  xs.length = n * size ∧ ∃ ao c, v = .slice ao n c ∧ n ≤ c ∧ c ≤ maxLen ∧ ∀ j u, xs[j]? = some u → ∃ b o, ao = some ⟨b, o, none⟩ ∧ b < w.heap.size ∧ w.cell? ⟨b, o + j, none⟩ = some u

section
variable {w w' : World} {v : Value} {n size : Nat} {xs : List Value}
theorem Arr.below (h : Arr w v n size xs) (hb : Below w.heap.size w w') : Arr w' v n size xs := by
  obtain ⟨hl, ao, c, rfl, hc, hm, hx⟩ := h
  refine ⟨hl, ao, c, rfl, hc, hm, fun j u hu => ?_⟩
  obtain ⟨b, o, rfl, hlt, hcell⟩ := hx j u hu
  exact ⟨b, o, rfl, Nat.lt_of_lt_of_le hlt hb.size, (hb.cell (p := ⟨b, o + j, none⟩) hlt).trans hcell⟩
theorem Arr.of_own {base : Nat} {e : TypeId} (h : w.ownsRow base e size v n xs) : Arr w v n size xs := by
  refine ⟨h.1, ?_⟩
  rcases h.2 with ⟨rfl, rfl⟩ | ⟨g, cap, cur, rfl, hb, hg, hn, hm, hs, hx⟩
  · have : xs = [] := List.eq_nil_of_length_eq_zero (by simpa using h.1)
    subst this
    exact ⟨none, 0, rfl, Nat.le_refl _, by unfold maxLen; omega, fun j u hu => by simp at hu⟩
  · refine ⟨_, cap, rfl, hn, hm, fun j u hu => ⟨g, 0, rfl, (Array.getElem?_eq_some_iff.1 hg).1, ?_⟩⟩
    have := h.cells (g := g) rfl j u hu
    rw [Nat.zero_add]
    by_cases hj : j = 0
    · subst hj; simpa [Addr.add] using this
    · simpa [Addr.add, hj] using this
theorem Arr.open (h : Arr w v n size xs) (hn : 0 < n) (hs : 0 < size) : ∃ b o c, v = .slice (some ⟨b, o, none⟩) n c ∧ n ≤ c ∧ c ≤ maxLen ∧ b < w.heap.size ∧ ∀ j u, xs[j]? = some u → w.cell? ⟨b, o + j, none⟩ = some u := by
  obtain ⟨hl, ao, c, rfl, hc, hm, hx⟩ := h
  have h0 : 0 < xs.length := by rw [hl]; exact Nat.mul_pos hn hs
  obtain ⟨b, o, rfl, hlt, -⟩ := hx 0 xs[0] (by simp [h0])
  refine ⟨b, o, c, rfl, hc, hm, hlt, fun j u hu => ?_⟩
  obtain ⟨b', o', he, _, hcell⟩ := hx j u hu
  cases he
  exact hcell
theorem Arr.shape (h : Arr w v n size xs) : ∃ ao c, v = .slice ao n c ∧ n ≤ c ∧ c ≤ maxLen := by
  obtain ⟨hl, ao, c, rfl, hc, hm, hx⟩ := h
  exact ⟨ao, c, rfl, hc, hm⟩
theorem Arr.clip {ao : Option Addr} {c : Nat} (h : Arr w (.slice ao n c) n size xs) : Arr w (.slice ao n n) n size xs := by
  obtain ⟨hl, ao', c', he, hc, hm, hx⟩ := h
  cases he
  exact ⟨hl, ao, n, rfl, Nat.le_refl _, Nat.le_trans hc hm, hx⟩
theorem Arr.nil (w : World) (size : Nat) : Arr w (.slice none 0 0) 0 size [] := ⟨by simp, none, 0, rfl, Nat.le_refl _, by unfold maxLen; omega, fun j u hu => by simp at hu⟩
end

/-- Rows of structs: element by element. -/
def rowOf {α : Type} (f : α → List Value) (l : List α) : List Value := l.flatMap f
theorem rowOf_nil {α : Type} (f : α → List Value) : rowOf f [] = [] := rfl
theorem rowOf_append {α : Type} (f : α → List Value) (l m : List α) : rowOf f (l ++ m) = rowOf f l ++ rowOf f m := by simp [rowOf]
theorem rowOf_snoc {α : Type} (f : α → List Value) (l : List α) (a : α) : rowOf f (l ++ [a]) = rowOf f l ++ f a := by simp [rowOf]
theorem rowOf_len {α : Type} {f : α → List Value} {k : Nat} (hf : ∀ a, (f a).length = k) (l : List α) : (rowOf f l).length = l.length * k := by
  induction l with
  | nil => simp [rowOf]
  | cons a l ih => simp only [rowOf, List.flatMap_cons, List.length_append, List.length_cons] at ih ⊢; rw [ih, hf, Nat.add_mul]; omega
theorem rowOf_get {α : Type} {f : α → List Value} {k : Nat} (hf : ∀ a, (f a).length = k) (l : List α) (i j : Nat) (hi : i < l.length) (hj : j < k) : (rowOf f l)[i * k + j]? = (f l[i])[j]? := by
  induction l generalizing i with
  | nil => simp at hi
  | cons a l ih =>
    show (f a ++ rowOf f l)[i * k + j]? = _
    cases i with
    | zero => rw [Nat.zero_mul, Nat.zero_add, List.getElem?_append_left (by rw [hf]; exact hj)]; rfl
    | succ i =>
      rw [List.getElem?_append_right (by rw [hf, Nat.add_mul]; omega), hf, show (i + 1) * k + j - k = i * k + j by rw [Nat.add_mul]; omega]
      exact ih i (by simpa using hi)
/-- A new block's cells. -/
theorem alloc_cells (w : World) (cs : List Value) (e : TypeId) (N : Nat) (hN : N = w.heap.size) : ∀ j u, cs[j]? = some u → (w.alloc (.cells cs.toArray e)).cell? ((⟨N, 0, none⟩ : Addr).add j) = some u := by
  subst hN
  intro j u hj
  have : (w.alloc (.cells cs.toArray e)).cell? ⟨w.heap.size, j, none⟩ = some u := by
    unfold World.cell?
    rw [heap_alloc_new]
    simpa using hj
  by_cases h0 : j = 0
  · subst h0; simpa [Addr.add] using this
  · simpa [Addr.add, h0] using this
theorem Value.ownBlock_slice (g n c : Nat) : (Value.slice (some ⟨g, 0, none⟩) n c).ownBlock = some g := rfl
/-- 'append(s, x)' of one element, s the call's own: as the walk meets it, behind the block that holds x. -/
theorem append_one {P : Program} {ops : Array Oper} {rest : List Oper} {o : Oper} {a : Act} {Q : Exit → Act → World → Prop} (w : World) (hgd : o.guard = none) (s x : Operand) (t : TypeId)
    (ho : o.op = .call { callee := .builtin .append, args := #[s, x], argTypes := #[t, t] })
    (base : Nat) (e : TypeId) (i : TypeInfo) (z : Value) (size bytes : Nat) (ht : P.underlying t = some (.slice e)) (hi : P.info? e = some i) (hz : i.zero = some z)
    (hsize : i.size = size) (hby : i.bytes = bytes) (hzs : z.cells.size = size) (hsz : 0 < size) (hbp : 0 < bytes)
    (v : Value) (n : Nat) (xs : List Value) (hs : a.eval s = v) (hown : w.ownsRow base e size v n xs)
    (cs : List Value) (e' : TypeId) (hx : a.eval x = .slice (some ⟨w.heap.size, 0, none⟩) 1 1) (hl : cs.length = size) (h1 : ∀ u ∈ cs, u.oneCell' = true)
    (hbytes : (n + 1) * bytes ≤ 140737488355328) (hbase : base ≤ w.heap.size)
    (h : ∀ g cap w', w'.ownsRow base e size (.slice (some ⟨g, 0, none⟩) (n + 1) cap) (n + 1) (xs ++ cs) → w.grownBy w' v.ownBlock → wpList P ops Q rest (a.put o.dst (.slice (some ⟨g, 0, none⟩) (n + 1) cap)) w') :
    wpList P ops Q (o :: rest) a (w.alloc (.cells cs.toArray e')) := by
  have hle : n + 1 ≤ (n + 1) * bytes := Nat.le_mul_of_pos_right _ hbp
  refine wpList_append_own _ hgd s x t ho base e i z size bytes ht hi hz hsize hby hzs hsz v n xs hs (hown.alloc _) ⟨w.heap.size, 0, none⟩ 1 1 cs hx (by rw [hl, Nat.one_mul]) ?_ h1 (by unfold maxLen; omega) hbytes (by simp; omega) ?_
  · exact alloc_cells w cs e' _ rfl
  · intro v' w' hown' hg hnil
    rcases hown'.2 with ⟨_, h0⟩ | ⟨g, cap, cur, rfl, _⟩
    · exact absurd h0 (by omega)
    · refine h g cap w' hown' ⟨hg.os, hg.tape, hg.output, Nat.le_trans (by simp) hg.size, fun k hk hne => ?_⟩
      rw [hg.block k (by simp; omega) hne, Below.heap_alloc w _ k hk]
theorem ownsRow_below {w w' : World} {base : Nat} {e : TypeId} {size : Nat} {v : Value} {n : Nat} {xs : List Value} (h : w.ownsRow base e size v n xs) (hb : Below w.heap.size w w') : w'.ownsRow base e size v n xs := by
  refine ⟨h.1, ?_⟩
  rcases h.2 with hn | ⟨g, cap, cur, hv, hbs, hg, rest⟩
  · exact .inl hn
  · exact .inr ⟨g, cap, cur, hv, hbs, (hb.block g (Array.getElem?_eq_some_iff.1 hg).1).trans hg, rest⟩
/-- What is written into an own row leaves all below its base. -/
theorem below_grown {a w w' : World} {base : Nat} {e : TypeId} {size : Nat} {v : Value} {n : Nat} {xs : List Value} (h : Below base a w) (hb : base ≤ w.heap.size) (ho : w.ownsRow base e size v n xs) (hg : w.grownBy w' v.ownBlock) : Below base a w' :=
  h.grown hg hb fun k hk => (ho.lt k hk).1
end Go.Proofs.YtijifjiehldcaaaGreat
