/- Over any program: an argument that is a slice, opened: what its elements' cells hold. What a proof's frame wants, over any program: the arguments of a law, opened by their types (numbers, bools, strings, structs and arrays of these). An argument that is a pair's First, opened. Is a pair's First too great? -/
import Derived.Test.YthpedifjclofoaaGreatBaB
import Derived.Deep.Slices
import Derived.WalkKit
import Derived.ProofKit
import Derived.OpenShut
import Derived.ShutString
import Derived.ChangeOld
import Derived.Below
import Derived.Test.YthpedifjclofoaaGreatBaI
import Derived.Test.YthpedifjclofoaaGreatRows
namespace Go.Proofs.YthpedifjclofoaaGreat
set_option linter.unusedSimpArgs false
section
open Go.ChangeShapes Go.WideShapes Go.Deep Go.RowKit
set_option linter.unusedVariables false

section
variable {H : Type} {enc : TypeId × Value → H} {P : Program} {w : World} {base : Nat} {spare : Nat → Bool} {held : Bool}
theorem block_lt_cell {a : Addr} {u : Value} (h : w.cell? a = some u) : a.block < w.heap.size := by
  unfold World.cell? at h
  split at h
  · rename_i he; exact (Array.getElem?_eq_some_iff.1 he).1
  · cases h
theorem spot_of_cell {a : Addr} {u : Value} (h : w.cell? a = some u) : a.spot = none := by
  unfold World.cell? at h
  split at h
  · split at h
    · cases h
    · rename_i hs; simpa using hs
  · cases h
theorem add_eq {a : Addr} {u : Value} {n : Nat} (h : w.cell? (a.add n) = some u) (hs : a.spot = none) : w.cell? ⟨a.block, a.off + n, none⟩ = some u := by
  unfold Addr.add at h
  split at h
  · rename_i hn; subst hn; rw [Nat.add_zero, ← hs]; exact h
  · exact h
theorem slice_of_trod {t e : TypeId} {size fuel : Nat} {cs : List Value} {x : DataW H × List MemPlace} (ht : P.underlying t = some (.slice e)) (hC : P.cellsOf e = size) (hsz : 0 < size)
    (h : DataW.trod enc P w base spare held fuel t cs = some x) :
    ∃ ao n c, cs = [.slice ao n c] ∧ n ≤ c ∧ c ≤ maxLen ∧ ∀ i, i < n → ∃ R : List Value, R.length = size ∧ (∃ fuel' d, DataW.trod enc P w base spare held fuel' e R = some d) ∧
      ∀ j u, R[j]? = some u → ∃ b o, ao = some ⟨b, o, none⟩ ∧ b < w.heap.size ∧ w.cell? ⟨b, o + (i * size + j), none⟩ = some u := by
  rcases open_slice ht h with ⟨rfl, -⟩ | ⟨a, len, cap, m, n, D, Pl, rfl, hb, hl, hm, hmm, -, hi⟩
  · exact ⟨none, 0, 0, rfl, Nat.le_refl _, by unfold maxLen; omega, fun i hi => absurd hi (by omega)⟩
  · refine ⟨some a, len, cap, rfl, hl, hm, fun i hil => ?_⟩
    have hlm : len ≤ m := by rw [hmm]; split <;> omega
    obtain ⟨R, hR, hT⟩ := hi i (by omega)
    rw [hC] at hR
    obtain ⟨_, hlen, hat⟩ := World.cells?_some hR
    refine ⟨R, hlen, ⟨_, _, hT⟩, fun j u hu => ?_⟩
    have hj : j < size := by rw [← hlen]; exact (List.getElem?_eq_some_iff.1 hu).1
    have hc := (hat j hj).trans hu
    have hs : a.spot = none := by
      by_cases h0 : i * size = 0 ∧ j = 0
      · obtain ⟨h0, rfl⟩ := h0
        rw [h0] at hc
        exact spot_of_cell hc
      · have h00 := (hat 0 hsz).trans (List.getElem?_eq_getElem (by omega))
        have h1 := spot_of_cell h00
        by_cases hz : i = 0
        · subst hz
          rw [Nat.zero_mul] at h1
          exact h1
        · obtain ⟨R0, hR0, hT0⟩ := hi 0 (by omega)
          rw [hC] at hR0
          obtain ⟨_, hlen0, hat0⟩ := World.cells?_some hR0
          have h2 := spot_of_cell ((hat0 0 hsz).trans (List.getElem?_eq_getElem (by omega)))
          rw [Nat.zero_mul] at h2
          exact h2
    have hc2 : w.cell? (a.add (i * size + j)) = some u := by
      rw [show a.add (i * size + j) = (a.add (i * size)).add j by first | exact Go.Deep.add_add _ _ _ | exact (Go.Deep.add_add _ _ _).symm]
      exact hc
    have ha : a = ⟨a.block, a.off, none⟩ := by cases a; simp at hs; subst hs; rfl
    exact ⟨a.block, a.off, congrArg some ha, block_lt_cell (a := ⟨a.block, a.off + (i * size + j), none⟩) (add_eq hc2 hs), add_eq hc2 hs⟩
/-- The elements, as a list. -/
theorem arr_of_slice {α : Type} [Inhabited α] {f : α → List Value} {good : α → Prop} {ao : Option Addr} {n c size : Nat} (hsz : 0 < size) (hf : ∀ a, (f a).length = size) (hn : n ≤ c) (hc : c ≤ maxLen)
    (h : ∀ i, i < n → ∃ a : α, good a ∧ ∀ j u, (f a)[j]? = some u → ∃ b o, ao = some ⟨b, o, none⟩ ∧ b < w.heap.size ∧ w.cell? ⟨b, o + (i * size + j), none⟩ = some u) :
    ∃ l : List α, l.length = n ∧ (∀ a ∈ l, good a) ∧ Arr w (.slice ao n c) n size (rowOf f l) := by
  obtain ⟨g, hg⟩ := choose_lt h
  refine ⟨(List.range n).map g, by simp, fun a ha => ?_, by rw [rowOf_len hf]; simp, ao, c, rfl, hn, hc, fun j u hu => ?_⟩
  · obtain ⟨i, hi, rfl⟩ := List.mem_map.1 ha
    exact (hg i (by simpa using hi)).1
  · have hj : j < n * size := by
      have := (List.getElem?_eq_some_iff.1 hu).1
      rw [rowOf_len hf] at this
      simpa using this
    have hi : j / size < n := Nat.div_lt_of_lt_mul (by rw [Nat.mul_comm]; exact hj)
    have hr : j % size < size := Nat.mod_lt _ hsz
    have he : j = j / size * size + j % size := by rw [Nat.mul_comm]; exact (Nat.div_add_mod j size).symm
    rw [he, rowOf_get hf _ _ _ (by simpa using hi) hr] at hu
    obtain ⟨b, o, h1, h2, h3⟩ := (hg _ hi).2 (j % size) u (by simpa using hu)
    exact ⟨b, o, h1, h2, by rw [he]; exact h3⟩
theorem cells_of_slice {t e : TypeId} {v : Value} {r : Reach} {b0 : Nat} (ht : P.underlying t = some (.slice e)) (h : Value.okWide P w r b0 t v) : v.cells = #[v] := by
  simp only [Value.okWide, ht, Cell.okWide] at h
  cases v <;> simp_all [Cell.ok, Value.cells]
theorem leaf_trod {k : IntKind} {T n i : Nat} {xs : List (DataW H × List MemPlace)} {l : List Value} (ht : P.underlying T = some (.int k)) (h : DataW.trod enc P w base spare held n T l = xs[i]?) (hi : i < xs.length) : ∃ z, l = [.int k z] ∧ (Lit.int k z).wf = true := by
  rw [List.getElem?_eq_getElem hi] at h
  obtain ⟨z, h1, _, h2⟩ := DataW.trod_int ht h
  exact ⟨z, h1, h2⟩
theorem bd_i64 {z : Int} (h : (Lit.int .i64 z).wf = true) : -9223372036854775808 ≤ z ∧ z ≤ 9223372036854775807 := by
  unfold Lit.wf at h
  obtain ⟨h1, h2⟩ := Bool.and_eq_true_iff.1 h
  exact ⟨of_decide_eq_true h1, of_decide_eq_true h2⟩
theorem bd_u8 {z : Int} (h : (Lit.int .u8 z).wf = true) : 0 ≤ z ∧ z ≤ 255 := by
  unfold Lit.wf at h
  obtain ⟨h1, h2⟩ := Bool.and_eq_true_iff.1 h
  exact ⟨of_decide_eq_true h1, of_decide_eq_true h2⟩
end
end
section
open Go.ChangeShapes Go.WideShapes Go.ChangeAt Go.RowKit

section
variable {P : Program} {w : World} {r : Reach} {base : Nat} {t u : TypeId} {v : Value}

theorem leaf_int {k : IntKind} (ht : P.underlying u = some (.int k)) (h : Cell.okWide P w r base u v) : ∃ n, v = .int k n ∧ k.has n := by
  simp only [Cell.okWide, ht] at h
  cases v <;> simp_all [Cell.ok]
theorem leaf_bool (ht : P.underlying u = some .bool) (h : Cell.okWide P w r base u v) : ∃ b, v = .bool b := by
  simp only [Cell.okWide, ht] at h
  cases v <;> simp_all [Cell.ok]
theorem leaf_string (ht : P.underlying u = some .string) (h : Cell.okWide P w r base u v) : ∃ s, v = .string s ∧ s.size ≤ maxLen := by
  simp only [Cell.okWide, ht] at h
  cases v <;> simp_all [Cell.ok]
  unfold maxLen
  omega
theorem leaf_i64 (ht : P.underlying u = some (.int .i64)) (h : Cell.okWide P w r base u v) : ∃ n, v = .int .i64 n ∧ -9223372036854775808 ≤ n ∧ n ≤ 9223372036854775807 := leaf_int ht h
theorem leaf_u64 (ht : P.underlying u = some (.int .u64)) (h : Cell.okWide P w r base u v) : ∃ n, v = .int .u64 n ∧ 0 ≤ n ∧ n ≤ 18446744073709551615 := leaf_int ht h
theorem leaf_u8 (ht : P.underlying u = some (.int .u8)) (h : Cell.okWide P w r base u v) : ∃ n, v = .int .u8 n ∧ 0 ≤ n ∧ n ≤ 255 := leaf_int ht h
theorem leaf_u16 (ht : P.underlying u = some (.int .u16)) (h : Cell.okWide P w r base u v) : ∃ n, v = .int .u16 n ∧ 0 ≤ n ∧ n ≤ 65535 := leaf_int ht h
theorem leaf_u32 (ht : P.underlying u = some (.int .u32)) (h : Cell.okWide P w r base u v) : ∃ n, v = .int .u32 n ∧ 0 ≤ n ∧ n ≤ 4294967295 := leaf_int ht h

/-- A plain value is a cell of its own. -/
theorem cell_of_value (hn : ∀ fs, P.underlying t ≠ some (.struct fs)) (hm : ∀ n e, P.underlying t ≠ some (.array n e)) (h : Value.okWide P w r base t v) : Cell.okWide P w r base t v := by
  unfold Value.okWide at h
  split at h
  · rename_i fs e; exact absurd e (hn fs)
  · rename_i n e e'; exact absurd e' (hm n e)
  · exact h
theorem cell_of_int {k : IntKind} (ht : P.underlying t = some (.int k)) (h : Value.okWide P w r base t v) : Cell.okWide P w r base t v := cell_of_value (by simp [ht]) (by simp [ht]) h
theorem cell_of_bool (ht : P.underlying t = some .bool) (h : Value.okWide P w r base t v) : Cell.okWide P w r base t v := cell_of_value (by simp [ht]) (by simp [ht]) h
theorem cell_of_string (ht : P.underlying t = some .string) (h : Value.okWide P w r base t v) : Cell.okWide P w r base t v := cell_of_value (by simp [ht]) (by simp [ht]) h

theorem open_row {ts : List TypeId} {cs : Array Value} (hts : P.cellTypes P.depth t = some ts) (hn : P.cellsOf t = ts.length) (hl : cs.size = P.cellsOf t) (h : Row.okWide P w r base t cs) :
    ∃ l : List Value, Value.agg cs = .agg l.toArray ∧ l.length = ts.length ∧ ∀ (i : Nat) (u : TypeId), ts[i]? = some u → ∃ x, l[i]? = some x ∧ Cell.okWide P w r base u x := by
  obtain ⟨ts', h1, _, h3⟩ := h
  rw [hts] at h1
  cases h1
  refine ⟨cs.toList, rfl, by simpa [hn] using hl, fun i u hu => ?_⟩
  have hi : i < ts.length := by
    rcases Nat.lt_or_ge i ts.length with h | h
    · exact h
    · rw [List.getElem?_eq_none h] at hu; cases hu
  have hi' : i < cs.size := by omega
  obtain ⟨u', hu', hc⟩ := h3 i cs[i] (by simp [hi'])
  rw [Nat.mod_eq_of_lt hi, hu] at hu'
  cases hu'
  exact ⟨cs[i], by simp [hi'], hc⟩
theorem open_struct {fs : Array Field} {ts : List TypeId} (ht : P.underlying t = some (.struct fs)) (hts : P.cellTypes P.depth t = some ts) (hn : P.cellsOf t = ts.length) (h : Value.okWide P w r base t v) :
    ∃ l : List Value, v = .agg l.toArray ∧ l.length = ts.length ∧ ∀ (i : Nat) (u : TypeId), ts[i]? = some u → ∃ x, l[i]? = some x ∧ Cell.okWide P w r base u x := by
  simp only [Value.okWide, ht] at h
  obtain ⟨cs, rfl, hl, hr⟩ := h
  exact open_row hts hn hl hr
theorem open_array {n : Nat} {e : TypeId} {ts : List TypeId} (ht : P.underlying t = some (.array n e)) (hts : P.cellTypes P.depth t = some ts) (hn : P.cellsOf t = ts.length) (h : Value.okWide P w r base t v) :
    ∃ l : List Value, v = .agg l.toArray ∧ l.length = ts.length ∧ ∀ (i : Nat) (u : TypeId), ts[i]? = some u → ∃ x, l[i]? = some x ∧ Cell.okWide P w r base u x := by
  simp only [Value.okWide, ht] at h
  obtain ⟨cs, rfl, hl, hr⟩ := h
  exact open_row hts hn hl hr
end
theorem list_of {α : Type} {l m : List α} (hl : l.length = m.length) (h : ∀ i, i < m.length → l[i]? = m[i]?) : l = m := by
  refine List.ext_getElem? fun i => ?_
  rcases Nat.lt_or_ge i m.length with hi | hi
  · exact h i hi
  · rw [List.getElem?_eq_none hi, List.getElem?_eq_none (by omega)]
end
section
open Go.ChangeShapes Go.WideShapes Go.Deep Go.RowKit
set_option linter.unusedVariables false

instance : Inhabited It := ⟨⟨⟨#[]⟩, ⟨#[]⟩, 0, 0, 0, 0⟩⟩
theorem bd_u64 {z : Int} (h : (Lit.int .u64 z).wf = true) : 0 ≤ z ∧ z ≤ 18446744073709551615 := by
  unfold Lit.wf at h
  obtain ⟨h1, h2⟩ := Bool.and_eq_true_iff.1 h
  exact ⟨of_decide_eq_true h1, of_decide_eq_true h2⟩
def PuOk (p : Int × Int × Int) : Prop := (0 ≤ p.1 ∧ p.1 < 256) ∧ (0 ≤ p.2.1 ∧ p.2.1 < 256) ∧ (0 ≤ p.2.2 ∧ p.2.2 < 256)
def StOk (p : Int × Int) : Prop := (0 ≤ p.1 ∧ p.1 < 18446744073709551616) ∧ (0 ≤ p.2 ∧ p.2 < 18446744073709551616)
/-- What a First of an argument is. -/
structure FstBd (F : Fst) : Prop where
  pub : ∀ p ∈ F.pu, PuOk p
  stb : ∀ p ∈ F.st, StOk p
  ti0 : -9223372036854775808 ≤ F.ti
  ti1 : F.ti ≤ 9223372036854775807
structure FstAt (w : World) (v : Value) (F : Fst) : Prop where
  ex : ∃ vi vp vs, v = fstV F vi vp vs ∧ Arr w vi F.it.length 6 (rowOf itc F.it) ∧ Arr w vp F.pu.length 3 (rowOf putc F.pu) ∧ Arr w vs F.st.length 2 (rowOf stoc F.st)
section
variable {H : Type} {enc : TypeId × Value → H} {w : World} {base : Nat} {spare : Nat → Bool} {held : Bool}
theorem fcells_int : Tryz.prog.cellsOf 3 = 1 := by kernel_rfl
theorem fcells_bool : Tryz.prog.cellsOf 4 = 1 := by kernel_rfl
theorem fcells_u8 : Tryz.prog.cellsOf 5 = 1 := by kernel_rfl
theorem fcells_u64 : Tryz.prog.cellsOf 24 = 1 := by kernel_rfl
theorem fcells_u32 : Tryz.prog.cellsOf 23 = 1 := by kernel_rfl
theorem fcells_addr : Tryz.prog.cellsOf 49 = 1 := by kernel_rfl
theorem fcells_str : Tryz.prog.cellsOf 9 = 1 := by kernel_rfl
theorem fcells_item : Tryz.prog.cellsOf 32 = 6 := by kernel_rfl
theorem fcells_put : Tryz.prog.cellsOf 173 = 3 := by kernel_rfl
theorem fcells_store : Tryz.prog.cellsOf 169 = 2 := by kernel_rfl
theorem fcells_conf : Tryz.prog.cellsOf 44 = 5 := by kernel_rfl
theorem fcells_first : Tryz.prog.cellsOf 94 = 10 := by kernel_rfl
theorem fcells_its : Tryz.prog.cellsOf 90 = 1 := by kernel_rfl
theorem fcells_puts : Tryz.prog.cellsOf 91 = 1 := by kernel_rfl
theorem fcells_stores : Tryz.prog.cellsOf 92 = 1 := by kernel_rfl
theorem leaf_str {T n i : Nat} {xs : List (DataW H × List MemPlace)} {l : List Value} (ht : Tryz.prog.underlying T = some .string) (h : DataW.trod enc Tryz.prog w base spare held n T l = xs[i]?) (hi : i < xs.length) : ∃ z, l = [.string z] := by
  rw [List.getElem?_eq_getElem hi] at h
  obtain ⟨z, h1, _, h2⟩ := DataW.trod_string ht h
  exact ⟨z, h1⟩
theorem leaf_bl {T n i : Nat} {xs : List (DataW H × List MemPlace)} {l : List Value} (ht : Tryz.prog.underlying T = some .bool) (h : DataW.trod enc Tryz.prog w base spare held n T l = xs[i]?) (hi : i < xs.length) : ∃ z, l = [.bool z] := by
  rw [List.getElem?_eq_getElem hi] at h
  obtain ⟨z, h1, _⟩ := DataW.trod_bool ht h
  exact ⟨z, h1⟩
set_option maxRecDepth 100000 in
theorem item_of_trod {fuel : Nat} {cs : List Value} {x : DataW H × List MemPlace} (h : DataW.trod enc Tryz.prog w base spare held fuel 32 cs = some x) : ∃ p : It, True ∧ itc p = cs := by
  obtain ⟨xs, n, _, _, hlen, hxl, hf⟩ := DataW.trod_struct Tryz.underlying32 h
  rw [fcells_item] at hlen
  match cs, hlen with
  | [c0, c1, c2, c3, c4, c5], _ =>
    have hx : xs.length = 6 := hxl
    have f0 : DataW.trod enc Tryz.prog w base spare held n 9 (List.take (Tryz.prog.cellsOf 9) (List.drop 0 [c0, c1, c2, c3, c4, c5])) = xs[0]? := hf 0 _ rfl
    have f1 : DataW.trod enc Tryz.prog w base spare held n 9 (List.take (Tryz.prog.cellsOf 9) (List.drop 1 [c0, c1, c2, c3, c4, c5])) = xs[1]? := hf 1 _ rfl
    have f2 : DataW.trod enc Tryz.prog w base spare held n 23 (List.take (Tryz.prog.cellsOf 23) (List.drop 2 [c0, c1, c2, c3, c4, c5])) = xs[2]? := hf 2 _ rfl
    have f3 : DataW.trod enc Tryz.prog w base spare held n 24 (List.take (Tryz.prog.cellsOf 24) (List.drop 3 [c0, c1, c2, c3, c4, c5])) = xs[3]? := hf 3 _ rfl
    have f4 : DataW.trod enc Tryz.prog w base spare held n 3 (List.take (Tryz.prog.cellsOf 3) (List.drop 4 [c0, c1, c2, c3, c4, c5])) = xs[4]? := hf 4 _ rfl
    have f5 : DataW.trod enc Tryz.prog w base spare held n 3 (List.take (Tryz.prog.cellsOf 3) (List.drop 5 [c0, c1, c2, c3, c4, c5])) = xs[5]? := hf 5 _ rfl
    rw [fcells_str] at f0 f1
    rw [fcells_u32] at f2
    rw [fcells_u64] at f3
    rw [fcells_int] at f4 f5
    obtain ⟨z0, e0⟩ := leaf_str Tryz.underlying9 f0 (by omega)
    obtain ⟨z1, e1⟩ := leaf_str Tryz.underlying9 f1 (by omega)
    obtain ⟨z2, e2, w2⟩ := leaf_trod Tryz.underlying23 f2 (by omega)
    obtain ⟨z3, e3, w3⟩ := leaf_trod Tryz.underlying24 f3 (by omega)
    obtain ⟨z4, e4, w4⟩ := leaf_trod Tryz.underlying3 f4 (by omega)
    obtain ⟨z5, e5, w5⟩ := leaf_trod Tryz.underlying3 f5 (by omega)
    simp at e0 e1 e2 e3 e4 e5
    subst e0 e1 e2 e3 e4 e5
    exact ⟨⟨z0, z1, z2, z3, z4, z5⟩, trivial, rfl⟩
set_option maxRecDepth 100000 in
theorem put_of_trod {fuel : Nat} {cs : List Value} {x : DataW H × List MemPlace} (h : DataW.trod enc Tryz.prog w base spare held fuel 173 cs = some x) : ∃ p : Int × Int × Int, PuOk p ∧ putc p = cs := by
  obtain ⟨xs, n, _, _, hlen, hxl, hf⟩ := DataW.trod_struct Tryz.underlying173 h
  rw [fcells_put] at hlen
  match cs, hlen with
  | [c0, c1, c2], _ =>
    have hx : xs.length = 3 := hxl
    have f0 : DataW.trod enc Tryz.prog w base spare held n 5 (List.take (Tryz.prog.cellsOf 5) (List.drop 0 [c0, c1, c2])) = xs[0]? := hf 0 _ rfl
    have f1 : DataW.trod enc Tryz.prog w base spare held n 5 (List.take (Tryz.prog.cellsOf 5) (List.drop 1 [c0, c1, c2])) = xs[1]? := hf 1 _ rfl
    have f2 : DataW.trod enc Tryz.prog w base spare held n 5 (List.take (Tryz.prog.cellsOf 5) (List.drop 2 [c0, c1, c2])) = xs[2]? := hf 2 _ rfl
    rw [fcells_u8] at f0 f1 f2
    obtain ⟨z0, e0, w0⟩ := leaf_trod Tryz.underlying5 f0 (by omega)
    obtain ⟨z1, e1, w1⟩ := leaf_trod Tryz.underlying5 f1 (by omega)
    obtain ⟨z2, e2, w2⟩ := leaf_trod Tryz.underlying5 f2 (by omega)
    simp at e0 e1 e2
    subst e0 e1 e2
    have b0 := bd_u8 w0
    have b1 := bd_u8 w1
    have b2 := bd_u8 w2
    exact ⟨(z0, z1, z2), ⟨⟨b0.1, by show z0 < 256; omega⟩, ⟨b1.1, by show z1 < 256; omega⟩, ⟨b2.1, by show z2 < 256; omega⟩⟩, rfl⟩
set_option maxRecDepth 100000 in
theorem store_of_trod {fuel : Nat} {cs : List Value} {x : DataW H × List MemPlace} (h : DataW.trod enc Tryz.prog w base spare held fuel 169 cs = some x) : ∃ p : Int × Int, StOk p ∧ stoc p = cs := by
  obtain ⟨xs, n, _, _, hlen, hxl, hf⟩ := DataW.trod_struct Tryz.underlying169 h
  rw [fcells_store] at hlen
  match cs, hlen with
  | [c0, c1], _ =>
    have hx : xs.length = 2 := hxl
    have f0 : DataW.trod enc Tryz.prog w base spare held n 49 (List.take (Tryz.prog.cellsOf 49) (List.drop 0 [c0, c1])) = xs[0]? := hf 0 _ rfl
    have f1 : DataW.trod enc Tryz.prog w base spare held n 24 (List.take (Tryz.prog.cellsOf 24) (List.drop 1 [c0, c1])) = xs[1]? := hf 1 _ rfl
    rw [fcells_addr] at f0
    rw [fcells_u64] at f1
    obtain ⟨z0, e0, w0⟩ := leaf_trod Tryz.underlying49 f0 (by omega)
    obtain ⟨z1, e1, w1⟩ := leaf_trod Tryz.underlying24 f1 (by omega)
    simp at e0 e1
    subst e0 e1
    have b0 := bd_u64 w0
    have b1 := bd_u64 w1
    exact ⟨(z0, z1), ⟨⟨b0.1, by show z0 < 18446744073709551616; omega⟩, ⟨b1.1, by show z1 < 18446744073709551616; omega⟩⟩, rfl⟩
set_option maxRecDepth 100000 in
theorem conf_of_trod {fuel : Nat} {cs : List Value} {x : DataW H × List MemPlace} (h : DataW.trod enc Tryz.prog w base spare held fuel 44 cs = some x) : ∃ f : Cf, cfL f = cs := by
  obtain ⟨xs, n, _, _, hlen, hxl, hf⟩ := DataW.trod_struct Tryz.underlying44 h
  rw [fcells_conf] at hlen
  match cs, hlen with
  | [c0, c1, c2, c3, c4], _ =>
    have hx : xs.length = 5 := hxl
    have f0 : DataW.trod enc Tryz.prog w base spare held n 3 (List.take (Tryz.prog.cellsOf 3) (List.drop 0 [c0, c1, c2, c3, c4])) = xs[0]? := hf 0 _ rfl
    have f1 : DataW.trod enc Tryz.prog w base spare held n 3 (List.take (Tryz.prog.cellsOf 3) (List.drop 1 [c0, c1, c2, c3, c4])) = xs[1]? := hf 1 _ rfl
    have f2 : DataW.trod enc Tryz.prog w base spare held n 3 (List.take (Tryz.prog.cellsOf 3) (List.drop 2 [c0, c1, c2, c3, c4])) = xs[2]? := hf 2 _ rfl
    have f3 : DataW.trod enc Tryz.prog w base spare held n 3 (List.take (Tryz.prog.cellsOf 3) (List.drop 3 [c0, c1, c2, c3, c4])) = xs[3]? := hf 3 _ rfl
    have f4 : DataW.trod enc Tryz.prog w base spare held n 3 (List.take (Tryz.prog.cellsOf 3) (List.drop 4 [c0, c1, c2, c3, c4])) = xs[4]? := hf 4 _ rfl
    rw [fcells_int] at f0 f1 f2 f3 f4
    obtain ⟨z0, e0, w0⟩ := leaf_trod Tryz.underlying3 f0 (by omega)
    obtain ⟨z1, e1, w1⟩ := leaf_trod Tryz.underlying3 f1 (by omega)
    obtain ⟨z2, e2, w2⟩ := leaf_trod Tryz.underlying3 f2 (by omega)
    obtain ⟨z3, e3, w3⟩ := leaf_trod Tryz.underlying3 f3 (by omega)
    obtain ⟨z4, e4, w4⟩ := leaf_trod Tryz.underlying3 f4 (by omega)
    simp at e0 e1 e2 e3 e4
    subst e0 e1 e2 e3 e4
    exact ⟨⟨z0, z1, z2, z3, z4⟩, rfl⟩
/-- A slice of structs behind a trodden cell. -/
theorem rows_of_trod {α : Type} [Inhabited α] {T E size fuel : Nat} {f : α → List Value} {good : α → Prop} {cs : List Value} {x : DataW H × List MemPlace} (hT : Tryz.prog.underlying T = some (.slice E)) (hC : Tryz.prog.cellsOf E = size) (hsz : 0 < size) (hfl : ∀ a, (f a).length = size)
    (hE : ∀ {fuel : Nat} {cs : List Value} {x : DataW H × List MemPlace}, DataW.trod enc Tryz.prog w base spare held fuel E cs = some x → ∃ p : α, good p ∧ f p = cs)
    (h : DataW.trod enc Tryz.prog w base spare held fuel T cs = some x) : ∃ (v : Value) (l : List α), cs = [v] ∧ (∀ a ∈ l, good a) ∧ Arr w v l.length size (rowOf f l) := by
  obtain ⟨ao, n, c, he, hn, hc, hi⟩ := slice_of_trod hT hC hsz h
  obtain ⟨l, hl, hg, hA⟩ := arr_of_slice (α := α) (size := size) (f := f) (good := good) hsz hfl hn hc (fun i hin => by
    obtain ⟨R, hR, ⟨fuel', d', hT⟩, hx⟩ := hi i hin
    obtain ⟨q, hok, rfl⟩ := hE hT
    exact ⟨q, hok, hx⟩)
  subst hl
  exact ⟨_, l, he, hg, hA⟩
set_option maxRecDepth 100000 in
theorem open_first {v : Value} {d : DataW H} {p : List MemPlace} {r : Reach} {b0 : Nat} (h : DataW.Trod enc Tryz.prog w base spare held 94 v d p) (ho : Value.okWide Tryz.prog w r b0 94 v) :
    ∃ F : Fst, FstBd F ∧ FstAt w v F := by
  obtain ⟨fuel, hf⟩ := h
  simp only [Value.okWide, Tryz.underlying94] at ho
  obtain ⟨ca, rfl, hl, hr⟩ := ho
  rw [fcells_first] at hl
  have hf : DataW.trod enc Tryz.prog w base spare held fuel 94 ca.toList = some (d, p) := hf
  obtain ⟨cs, hcs⟩ : ∃ cs, cs = ca.toList := ⟨_, rfl⟩
  have hca : ca = cs.toArray := by rw [hcs]
  have hlc : cs.length = 10 := by rw [hcs]; simpa using hl
  subst hca
  have hf : DataW.trod enc Tryz.prog w base spare held fuel 94 cs = some (d, p) := by simpa using hf
  clear hcs hl hr
  obtain ⟨xs, n, _, _, hlen, hxl, hg⟩ := DataW.trod_struct Tryz.underlying94 hf
  match cs, hlc with
  | [c0, c1, c2, c3, c4, c5, c6, c7, c8, c9], _ =>
    have hx : xs.length = 6 := hxl
    have f0 : DataW.trod enc Tryz.prog w base spare held n 44 (List.take (Tryz.prog.cellsOf 44) (List.drop 0 [c0, c1, c2, c3, c4, c5, c6, c7, c8, c9])) = xs[0]? := hg 0 _ rfl
    have f1 : DataW.trod enc Tryz.prog w base spare held n 4 (List.take (Tryz.prog.cellsOf 4) (List.drop 5 [c0, c1, c2, c3, c4, c5, c6, c7, c8, c9])) = xs[1]? := hg 1 _ rfl
    have f2 : DataW.trod enc Tryz.prog w base spare held n 90 (List.take (Tryz.prog.cellsOf 90) (List.drop 6 [c0, c1, c2, c3, c4, c5, c6, c7, c8, c9])) = xs[2]? := hg 2 _ rfl
    have f3 : DataW.trod enc Tryz.prog w base spare held n 91 (List.take (Tryz.prog.cellsOf 91) (List.drop 7 [c0, c1, c2, c3, c4, c5, c6, c7, c8, c9])) = xs[3]? := hg 3 _ rfl
    have f4 : DataW.trod enc Tryz.prog w base spare held n 92 (List.take (Tryz.prog.cellsOf 92) (List.drop 8 [c0, c1, c2, c3, c4, c5, c6, c7, c8, c9])) = xs[4]? := hg 4 _ rfl
    have f5 : DataW.trod enc Tryz.prog w base spare held n 3 (List.take (Tryz.prog.cellsOf 3) (List.drop 9 [c0, c1, c2, c3, c4, c5, c6, c7, c8, c9])) = xs[5]? := hg 5 _ rfl
    rw [fcells_conf, List.getElem?_eq_getElem (by omega)] at f0
    rw [fcells_bool] at f1
    rw [fcells_its, List.getElem?_eq_getElem (by omega)] at f2
    rw [fcells_puts, List.getElem?_eq_getElem (by omega)] at f3
    rw [fcells_stores, List.getElem?_eq_getElem (by omega)] at f4
    rw [fcells_int] at f5
    obtain ⟨cf, e0⟩ := conf_of_trod f0
    obtain ⟨gr, e1⟩ := leaf_bl Tryz.underlying4 f1 (by omega)
    obtain ⟨vi, it, e2, g2, a2⟩ := rows_of_trod (α := It) (f := itc) (good := fun _ => True) Tryz.underlying90 fcells_item (by omega) itc_len item_of_trod f2
    obtain ⟨vp, pu, e3, g3, a3⟩ := rows_of_trod (α := Int × Int × Int) (f := putc) (good := PuOk) Tryz.underlying91 fcells_put (by omega) (fun _ => rfl) put_of_trod f3
    obtain ⟨vs, st, e4, g4, a4⟩ := rows_of_trod (α := Int × Int) (f := stoc) (good := StOk) Tryz.underlying92 fcells_store (by omega) (fun _ => rfl) store_of_trod f4
    obtain ⟨ti, e5, w5⟩ := leaf_trod Tryz.underlying3 f5 (by omega)
    unfold cfL at e0
    simp at e0 e1 e2 e3 e4 e5
    obtain ⟨q0, q1, q2, q3, q4⟩ := e0
    subst q0 q1 q2 q3 q4 e1 e2 e3 e4 e5
    exact ⟨⟨cf, gr, it, pu, st, ti⟩, ⟨g3, g4, (bd_i64 w5).1, (bd_i64 w5).2⟩, ⟨_, _, _, rfl, a2, a3, a4⟩⟩
end
end
section
open Go.RowKit
set_option linter.unusedVariables false

def GreatPost (w : World) (F : Fst) (e : Ending) (w' : World) : Prop :=
  ∃ b : Bool, e = .returned (.bool b) ∧ Below w.heap.size w w' ∧ (b = false → F.it.length ≤ 40 ∧ F.pu.length ≤ 60 ∧ F.st.length ≤ 60 ∧ ∀ x ∈ F.it, x.key.size ≤ 400)
theorem FstAt.into {w : World} {v : Value} {F : Fst} (h : FstAt w v F) (g : FstBd F) (b : F.it.length ≤ 40 ∧ F.pu.length ≤ 60 ∧ F.st.length ≤ 60 ∧ ∀ x ∈ F.it, x.key.size ≤ 400) : ∃ vi vp vs, v = fstV F vi vp vs ∧ FstIn w F vi vp vs := by
  obtain ⟨vi, vp, vs, rfl, h1, h2, h3⟩ := h.ex
  exact ⟨vi, vp, vs, rfl, ⟨h1, h2, h3, b.1, b.2.1, b.2.2.1, b.2.2.2, g.pub, g.stb, g.ti0, g.ti1⟩⟩
theorem FstAt.below {w w' : World} {v : Value} {F : Fst} (h : FstAt w v F) (hb : Below w.heap.size w w') : FstAt w' v F := by
  obtain ⟨vi, vp, vs, rfl, h1, h2, h3⟩ := h.ex
  exact ⟨vi, vp, vs, rfl, h1.below hb, h2.below hb, h3.below hb⟩
end
end Go.Proofs.YthpedifjclofoaaGreat
