/- Over any program: an argument that is a slice, opened: what its elements' cells hold. What a proof's frame wants, over any program: the arguments of a law, opened by their types (numbers, bools, strings, structs and arrays of these). An argument that is a pair's First, opened. Is a pair's First too great? An argument that is a slice of bytes, opened. -/
import Derived.Test.YtfnmdafpdcgcmaaGreatZB
import Derived.Test.YtfnmdafpdcgcmaaGreatZI
import Derived.Below
import Derived.ChangeOld
import Derived.Deep.Slices
import Derived.OpenShut
import Derived.ProofKit
import Derived.ShutString
import Derived.Test.YtfnmdafpdcgcmaaGreatRows
import Derived.WalkKit
namespace Go.Proofs.YtfnmdafpdcgcmaaGreat
set_option linter.unusedSimpArgs false
section
set_option linter.unusedVariables false
section
open Go.ChangeShapes Go.WideShapes Go.Deep Go.RowKit
section
variable {H : Type} {enc : TypeId × Value → H} {P : Program} {w : World} {base : Nat} {spare : Nat → Bool} {held : Bool}
theorem block_lt_cell {a : Addr} {u : Value} (h : w.cell? a = some u) : a.block < w.heap.size := by
 unfold World.cell? at h
 split at h
 · rename_i he; exact (Array.getElem?_eq_some_iff.1 he).1
 · cases h
theorem spot_of_cell {a : Addr} {u : Value} (h : w.cell? a = some u) : a.spot = none := by
 unfold World.cell? at h
 split at h
 · split at h
   · cases h
   · rename_i hs; simpa using hs
 · cases h
theorem add_eq {a : Addr} {u : Value} {n : Nat} (h : w.cell? (a.add n) = some u) (hs : a.spot = none) : w.cell? ⟨a.block, a.off + n, none⟩ = some u := by
 unfold Addr.add at h
 split at h
 · rename_i hn; subst hn; rw [Nat.add_zero, ← hs]; exact h
 · exact h
theorem slice_of_trod {t e : TypeId} {size fuel : Nat} {cs : List Value} {x : DataW H × List MemPlace} (ht : P.underlying t = some (.slice e)) (hC : P.cellsOf e = size) (hsz : 0 < size)
 (h : DataW.trod enc P w base spare held fuel t cs = some x) :
 ∃ ao n c, cs = [.slice ao n c] ∧ n ≤ c ∧ c ≤ maxLen ∧ ∀ i, i < n → ∃ R : List Value, R.length = size ∧ (∃ fuel' d, DataW.trod enc P w base spare held fuel' e R = some d) ∧
  ∀ j u, R[j]? = some u → ∃ b o, ao = some ⟨b, o, none⟩ ∧ b < w.heap.size ∧ w.cell? ⟨b, o + (i * size + j), none⟩ = some u := by
 rcases open_slice ht h with ⟨rfl, -⟩ | ⟨a, len, cap, m, n, D, Pl, rfl, hb, hl, hm, hmm, -, hi⟩
 · exact ⟨none, 0, 0, rfl, Nat.le_refl _, by unfold maxLen; omega, fun i hi => absurd hi (by omega)⟩
 · refine ⟨some a, len, cap, rfl, hl, hm, fun i hil => ?_⟩
   have hlm : len ≤ m := by rw [hmm]; split <;> omega
   obtain ⟨R, hR, hT⟩ := hi i (by omega)
   rw [hC] at hR
   obtain ⟨_, hlen, hat⟩ := World.cells?_some hR
   refine ⟨R, hlen, ⟨_, _, hT⟩, fun j u hu => ?_⟩
   have hj : j < size := by rw [← hlen]; exact (List.getElem?_eq_some_iff.1 hu).1
   have hc := (hat j hj).trans hu
   have hs : a.spot = none := by
    by_cases h0 : i * size = 0 ∧ j = 0
    · obtain ⟨h0, rfl⟩ := h0
      rw [h0] at hc
      exact spot_of_cell hc
    · have h00 := (hat 0 hsz).trans (List.getElem?_eq_getElem (by omega))
      have h1 := spot_of_cell h00
      by_cases hz : i = 0
      · subst hz
        rw [Nat.zero_mul] at h1
        exact h1
      · obtain ⟨R0, hR0, hT0⟩ := hi 0 (by omega)
        rw [hC] at hR0
        obtain ⟨_, hlen0, hat0⟩ := World.cells?_some hR0
        have h2 := spot_of_cell ((hat0 0 hsz).trans (List.getElem?_eq_getElem (by omega)))
        rw [Nat.zero_mul] at h2
        exact h2
   have hc2 : w.cell? (a.add (i * size + j)) = some u := by
    rw [show a.add (i * size + j) = (a.add (i * size)).add j by first | exact Go.Deep.add_add _ _ _ | exact (Go.Deep.add_add _ _ _).symm]
    exact hc
   have ha : a = ⟨a.block, a.off, none⟩ := by cases a; simp at hs; subst hs; rfl
   exact ⟨a.block, a.off, congrArg some ha, block_lt_cell (a := ⟨a.block, a.off + (i * size + j), none⟩) (add_eq hc2 hs), add_eq hc2 hs⟩
theorem arr_of_slice {α : Type} [Inhabited α] {f : α → List Value} {good : α → Prop} {ao : Option Addr} {n c size : Nat} (hsz : 0 < size) (hf : ∀ a, (f a).length = size) (hn : n ≤ c) (hc : c ≤ maxLen)
 (h : ∀ i, i < n → ∃ a : α, good a ∧ ∀ j u, (f a)[j]? = some u → ∃ b o, ao = some ⟨b, o, none⟩ ∧ b < w.heap.size ∧ w.cell? ⟨b, o + (i * size + j), none⟩ = some u) :
 ∃ l : List α, l.length = n ∧ (∀ a ∈ l, good a) ∧ Arr w (.slice ao n c) n size (rowOf f l) := by
 obtain ⟨g, hg⟩ := choose_lt h
 refine ⟨(List.range n).map g, by simp, fun a ha => ?_, by rw [rowOf_len hf]; simp, ao, c, rfl, hn, hc, fun j u hu => ?_⟩
 · obtain ⟨i, hi, rfl⟩ := List.mem_map.1 ha
   exact (hg i (by simpa using hi)).1
 · have hj : j < n * size := by
    have := (List.getElem?_eq_some_iff.1 hu).1
    rw [rowOf_len hf] at this
    simpa using this
   have hi : j / size < n := Nat.div_lt_of_lt_mul (by rw [Nat.mul_comm]; exact hj)
   have hr : j % size < size := Nat.mod_lt _ hsz
   have he : j = j / size * size + j % size := by rw [Nat.mul_comm]; exact (Nat.div_add_mod j size).symm
   rw [he, rowOf_get hf _ _ _ (by simpa using hi) hr] at hu
   obtain ⟨b, o, h1, h2, h3⟩ := (hg _ hi).2 (j % size) u (by simpa using hu)
   exact ⟨b, o, h1, h2, by rw [he]; exact h3⟩
theorem cells_of_slice {t e : TypeId} {v : Value} {r : Reach} {b0 : Nat} (ht : P.underlying t = some (.slice e)) (h : Value.okWide P w r b0 t v) : v.cells = #[v] := by
 simp only [Value.okWide, ht, Cell.okWide] at h
 cases v <;> simp_all [Cell.ok, Value.cells]
theorem leaf_trod {k : IntKind} {T n i : Nat} {xs : List (DataW H × List MemPlace)} {l : List Value} (ht : P.underlying T = some (.int k)) (h : DataW.trod enc P w base spare held n T l = xs[i]?) (hi : i < xs.length) : ∃ z, l = [.int k z] ∧ (Lit.int k z).wf = true := by
 rw [List.getElem?_eq_getElem hi] at h
 obtain ⟨z, h1, _, h2⟩ := DataW.trod_int ht h
 exact ⟨z, h1, h2⟩
theorem bd_u8 {z : Int} (h : (Lit.int .u8 z).wf = true) : 0 ≤ z ∧ z ≤ 255 := by
 unfold Lit.wf at h
 obtain ⟨h1, h2⟩ := Bool.and_eq_true_iff.1 h
 exact ⟨of_decide_eq_true h1, of_decide_eq_true h2⟩
end
end
section
open Go.ChangeShapes Go.WideShapes Go.ChangeAt Go.RowKit
section
variable {P : Program} {w : World} {r : Reach} {base : Nat} {t u : TypeId} {v : Value}
theorem leaf_int {k : IntKind} (ht : P.underlying u = some (.int k)) (h : Cell.okWide P w r base u v) : ∃ n, v = .int k n ∧ k.has n := by
 simp only [Cell.okWide, ht] at h
 cases v <;> simp_all [Cell.ok]
theorem leaf_bool (ht : P.underlying u = some .bool) (h : Cell.okWide P w r base u v) : ∃ b, v = .bool b := by
 simp only [Cell.okWide, ht] at h
 cases v <;> simp_all [Cell.ok]
theorem leaf_i64 (ht : P.underlying u = some (.int .i64)) (h : Cell.okWide P w r base u v) : ∃ n, v = .int .i64 n ∧ -9223372036854775808 ≤ n ∧ n ≤ 9223372036854775807 := leaf_int ht h
theorem leaf_u64 (ht : P.underlying u = some (.int .u64)) (h : Cell.okWide P w r base u v) : ∃ n, v = .int .u64 n ∧ 0 ≤ n ∧ n ≤ 18446744073709551615 := leaf_int ht h
theorem leaf_u8 (ht : P.underlying u = some (.int .u8)) (h : Cell.okWide P w r base u v) : ∃ n, v = .int .u8 n ∧ 0 ≤ n ∧ n ≤ 255 := leaf_int ht h
theorem cell_of_value (hn : ∀ fs, P.underlying t ≠ some (.struct fs)) (hm : ∀ n e, P.underlying t ≠ some (.array n e)) (h : Value.okWide P w r base t v) : Cell.okWide P w r base t v := by
 unfold Value.okWide at h
 split at h
 · rename_i fs e; exact absurd e (hn fs)
 · rename_i n e e'; exact absurd e' (hm n e)
 · exact h
theorem cell_of_int {k : IntKind} (ht : P.underlying t = some (.int k)) (h : Value.okWide P w r base t v) : Cell.okWide P w r base t v := cell_of_value (by simp [ht]) (by simp [ht]) h
theorem cell_of_bool (ht : P.underlying t = some .bool) (h : Value.okWide P w r base t v) : Cell.okWide P w r base t v := cell_of_value (by simp [ht]) (by simp [ht]) h
end
end
section
open Go.ChangeShapes Go.WideShapes Go.Deep Go.RowKit
instance : Inhabited It := ⟨⟨⟨#[]⟩, ⟨#[]⟩, 0, 0, 0, 0⟩⟩
def PuOk (p : Int × Int × Int) : Prop := (0 ≤ p.1 ∧ p.1 < 256) ∧ (0 ≤ p.2.1 ∧ p.2.1 < 256) ∧ (0 ≤ p.2.2 ∧ p.2.2 < 256)
section
variable {H : Type} {enc : TypeId × Value → H} {w : World} {base : Nat} {spare : Nat → Bool} {held : Bool}
theorem fcells_u8 : Tryz.prog.cellsOf 5 = 1 := by kernel_rfl
theorem fcells_str : Tryz.prog.cellsOf 9 = 1 := by kernel_rfl
theorem rows_of_trod {α : Type} [Inhabited α] {T E size fuel : Nat} {f : α → List Value} {good : α → Prop} {cs : List Value} {x : DataW H × List MemPlace} (hT : Tryz.prog.underlying T = some (.slice E)) (hC : Tryz.prog.cellsOf E = size) (hsz : 0 < size) (hfl : ∀ a, (f a).length = size)
 (hE : ∀ {fuel : Nat} {cs : List Value} {x : DataW H × List MemPlace}, DataW.trod enc Tryz.prog w base spare held fuel E cs = some x → ∃ p : α, good p ∧ f p = cs)
 (h : DataW.trod enc Tryz.prog w base spare held fuel T cs = some x) : ∃ (v : Value) (l : List α), cs = [v] ∧ (∀ a ∈ l, good a) ∧ Arr w v l.length size (rowOf f l) := by
 obtain ⟨ao, n, c, he, hn, hc, hi⟩ := slice_of_trod hT hC hsz h
 obtain ⟨l, hl, hg, hA⟩ := arr_of_slice (α := α) (size := size) (f := f) (good := good) hsz hfl hn hc (fun i hin => by
  obtain ⟨R, hR, ⟨fuel', d', hT⟩, hx⟩ := hi i hin
  obtain ⟨q, hok, rfl⟩ := hE hT
  exact ⟨q, hok, hx⟩)
 subst hl
 exact ⟨_, l, he, hg, hA⟩
end
end
end
section
set_option linter.unusedVariables false
set_option maxRecDepth 100000
open Go.ChangeShapes Go.WideShapes Go.Deep Go.RowKit
def byArg (z : Int) : List Value := [.int .u8 z]
section
variable {H : Type} {enc : TypeId × Value → H} {w : World} {base : Nat} {spare : Nat → Bool} {held : Bool}
theorem cells_byte : Tryz.prog.cellsOf 5 = 1 := by kernel_rfl
theorem open_bytes {v : Value} {d : DataW H} {p : List MemPlace} {r : Reach} {b0 : Nat} (h : DataW.Trod enc Tryz.prog w base spare held 24 v d p) (ho : Value.okWide Tryz.prog w r b0 24 v) :
 ∃ l : List Int, (∀ z ∈ l, 0 ≤ z ∧ z ≤ 255) ∧ Arr w v l.length 1 (rowOf byArg l) := by
 obtain ⟨fuel, hf⟩ := h
 rw [cells_of_slice Tryz.underlying24 ho] at hf
 obtain ⟨ao, n, c, he, hn, hc, hi⟩ := slice_of_trod Tryz.underlying24 cells_byte (by omega) hf
 cases he
 obtain ⟨l, hl, hg, hA⟩ := arr_of_slice (α := Int) (size := 1) (f := byArg) (good := fun z => 0 ≤ z ∧ z ≤ 255) (by omega) (fun _ => rfl) hn hc (fun i hin => by
  obtain ⟨R, hR, ⟨fuel', d', hT⟩, hx⟩ := hi i hin
  obtain ⟨z, h1, _, h2⟩ := DataW.trod_int Tryz.underlying5 hT
  exact ⟨z, bd_u8 h2, by rw [h1] at hx; exact hx⟩)
 rw [← hl] at hA
 exact ⟨l, hg, by rw [hl] at hA ⊢; exact hA⟩
end
end
end Go.Proofs.YtfnmdafpdcgcmaaGreat
