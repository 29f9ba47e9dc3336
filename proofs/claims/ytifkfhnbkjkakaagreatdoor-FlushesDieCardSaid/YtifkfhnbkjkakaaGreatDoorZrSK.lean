/- A pair of worlds: contracts of Store, Tick, Item. A pair of worlds: contracts of put and of what it calls. A pair of worlds as a law begins: contracts of Other and Begin. What a law has behind its Begin. Over any program: an argument that is a slice, opened: what its elements' cells hold. What a proof's frame wants, over any program: the arguments of a law, opened by their types (numbers, bools, strings, structs and arrays of these). An argument that is a pair's First, opened. Is a pair's First too great? An argument that is a slice of calls, opened. -/
import Derived.Test.YtifkfhnbkjkakaaGreatDoorZrBaG
import Derived.Test.YtifkfhnbkjkakaaGreatDoorZrBaE
import Derived.Test.YtifkfhnbkjkakaaGreatDoorZrBaD
import Derived.Test.YtifkfhnbkjkakaaGreatDoorZrBaB
import Derived.Below
import Derived.ChangeOld
import Derived.Deep.Slices
import Derived.OpenShut
import Derived.ProofKit
import Derived.ShutString
import Derived.Test.YtifkfhnbkjkakaaGreatDoorRows
import Derived.WalkKit
import Derived.Test.YtifkfhnbkjkakaaGreatDoorZrSeY
namespace Go.Proofs.YtifkfhnbkjkakaaGreatDoor
set_option linter.unusedSimpArgs false
set_option linter.unusedVariables false
set_option maxRecDepth 100000
section
section
open Go.RowKit
section
variable {S : Nat → Prop} {O O' : Om} {w w' : World} {B C : Wb} {f : Cf} {s s1 : AW} {m : Nat}
theorem RW.sw (h : RW w O C f s m) (e : Ext SW O w O' w') : RW w' O' C f s m := h.ext e (fun h => by have := h.2; omega) (fun h => by have := h.2; omega) (fun h => by have := h.2; omega) (fun h => by have := h.2; omega)
end
theorem PW.item {w w' : World} {O O' : Om} {B : Wb} {f : Cf} {s : AW} {l : List It} (h : PW w O B f s) (e : Ext (fun t => t = 3) O w O' w') (hc : Ar w' O' 3 B.ip l) : PW w' O' B f ⟨s.M, s.n, s.la, s.tk, s.ho, l, s.nt⟩ :=
 ⟨(e.lo _ h.wo.lt).trans h.o, h.wo.wrote e.wr (fun k => absurd (show (1 : Nat) = 3 from by have := k.1; rwa [h.o] at this) (by decide)), h.ce.ext e (by decide) (by decide), hc, h.no.ext e (by decide)⟩
theorem RW.item {w w' : World} {O O' : Om} {B : Wb} {f : Cf} {s : AW} {m : Nat} {l : List It} (h : RW w O B f s m) (e : Ext (fun t => t = 7) O w O' w') (hc : LH w' O' 7 34 6 itc B.ip l) : RW w' O' B f ⟨s.M, s.n, s.la, s.tk, s.ho, l, s.nt⟩ m :=
 ⟨(e.lo _ h.wo.lt).trans h.o, h.wo.wrote e.wr (fun k => absurd (show (5 : Nat) = 7 from by have := k.1; rwa [h.o] at this) (by decide)), h.ce.ext e (by decide), hc, h.no.ext e (by decide)⟩
end
section
open Go.RowKit
@[go_sem] theorem fld_it0 (a b c d e f : Value) (w : World) : (Instr.field 34 (.agg #[a, b, c, d, e, f]) 0).run Tryz.prog w = .ok a w := by kernel_rfl
end
section
open Go.RowKit
def O0 : Om := fun _ => 0
def SB (t : Nat) : Prop := 1 ≤ t ∧ t ≤ 9
theorem Ext.arr {S : Nat → Prop} {w w' : World} {G : Om} {v : Value} {n size : Nat} {xs : List Value} (h : Arr w v n size xs) (e : Ext S O0 w G w') (h0 : ¬ S 0) : Arr w' v n size xs := by
 obtain ⟨hl, ao, c, rfl, h1, h2, h3⟩ := h
 refine ⟨hl, ao, c, rfl, h1, h2, fun j u hu => ?_⟩
 obtain ⟨b, o, rfl, hlt, hcell⟩ := h3 j u hu
 exact ⟨b, o, rfl, Nat.lt_of_lt_of_le hlt e.size, (e.cell (p := ⟨b, o + j, none⟩) hlt h0).trans hcell⟩
end
end
section
section
open Go.ChangeShapes Go.WideShapes Go.Deep Go.RowKit
section
variable {H : Type} {enc : TypeId × Value → H} {P : Program} {w : World} {base : Nat} {spare : Nat → Bool} {held : Bool}
theorem block_lt_cell {a : Addr} {u : Value} (h : w.cell? a = some u) : a.block < w.heap.size := by
 unfold World.cell? at h
 split at h
 · rename_i he; exact (Array.getElem?_eq_some_iff.1 he).1
 · cases h
theorem spot_of_cell {a : Addr} {u : Value} (h : w.cell? a = some u) : a.spot = none := by
 unfold World.cell? at h
 split at h
 · split at h
   · cases h
   · rename_i hs; simpa using hs
 · cases h
theorem add_eq {a : Addr} {u : Value} {n : Nat} (h : w.cell? (a.add n) = some u) (hs : a.spot = none) : w.cell? ⟨a.block, a.off + n, none⟩ = some u := by
 unfold Addr.add at h
 split at h
 · rename_i hn; subst hn; rw [Nat.add_zero, ← hs]; exact h
 · exact h
theorem slice_of_trod {t e : TypeId} {size fuel : Nat} {cs : List Value} {x : DataW H × List MemPlace} (ht : P.underlying t = some (.slice e)) (hC : P.cellsOf e = size) (hsz : 0 < size)
 (h : DataW.trod enc P w base spare held fuel t cs = some x) :
 ∃ ao n c, cs = [.slice ao n c] ∧ n ≤ c ∧ c ≤ maxLen ∧ ∀ i, i < n → ∃ R : List Value, R.length = size ∧ (∃ fuel' d, DataW.trod enc P w base spare held fuel' e R = some d) ∧
  ∀ j u, R[j]? = some u → ∃ b o, ao = some ⟨b, o, none⟩ ∧ b < w.heap.size ∧ w.cell? ⟨b, o + (i * size + j), none⟩ = some u := by
 rcases open_slice ht h with ⟨rfl, -⟩ | ⟨a, len, cap, m, n, D, Pl, rfl, hb, hl, hm, hmm, -, hi⟩
 · exact ⟨none, 0, 0, rfl, Nat.le_refl _, by unfold maxLen; omega, fun i hi => absurd hi (by omega)⟩
 · refine ⟨some a, len, cap, rfl, hl, hm, fun i hil => ?_⟩
   have hlm : len ≤ m := by rw [hmm]; split <;> omega
   obtain ⟨R, hR, hT⟩ := hi i (by omega)
   rw [hC] at hR
   obtain ⟨_, hlen, hat⟩ := World.cells?_some hR
   refine ⟨R, hlen, ⟨_, _, hT⟩, fun j u hu => ?_⟩
   have hj : j < size := by rw [← hlen]; exact (List.getElem?_eq_some_iff.1 hu).1
   have hc := (hat j hj).trans hu
   have hs : a.spot = none := by
    by_cases h0 : i * size = 0 ∧ j = 0
    · obtain ⟨h0, rfl⟩ := h0
      rw [h0] at hc
      exact spot_of_cell hc
    · have h00 := (hat 0 hsz).trans (List.getElem?_eq_getElem (by omega))
      have h1 := spot_of_cell h00
      by_cases hz : i = 0
      · subst hz
        rw [Nat.zero_mul] at h1
        exact h1
      · obtain ⟨R0, hR0, hT0⟩ := hi 0 (by omega)
        rw [hC] at hR0
        obtain ⟨_, hlen0, hat0⟩ := World.cells?_some hR0
        have h2 := spot_of_cell ((hat0 0 hsz).trans (List.getElem?_eq_getElem (by omega)))
        rw [Nat.zero_mul] at h2
        exact h2
   have hc2 : w.cell? (a.add (i * size + j)) = some u := by
    rw [show a.add (i * size + j) = (a.add (i * size)).add j by first | exact Go.Deep.add_add _ _ _ | exact (Go.Deep.add_add _ _ _).symm]
    exact hc
   have ha : a = ⟨a.block, a.off, none⟩ := by cases a; simp at hs; subst hs; rfl
   exact ⟨a.block, a.off, congrArg some ha, block_lt_cell (a := ⟨a.block, a.off + (i * size + j), none⟩) (add_eq hc2 hs), add_eq hc2 hs⟩
theorem arr_of_slice {α : Type} [Inhabited α] {f : α → List Value} {good : α → Prop} {ao : Option Addr} {n c size : Nat} (hsz : 0 < size) (hf : ∀ a, (f a).length = size) (hn : n ≤ c) (hc : c ≤ maxLen)
 (h : ∀ i, i < n → ∃ a : α, good a ∧ ∀ j u, (f a)[j]? = some u → ∃ b o, ao = some ⟨b, o, none⟩ ∧ b < w.heap.size ∧ w.cell? ⟨b, o + (i * size + j), none⟩ = some u) :
 ∃ l : List α, l.length = n ∧ (∀ a ∈ l, good a) ∧ Arr w (.slice ao n c) n size (rowOf f l) := by
 obtain ⟨g, hg⟩ := choose_lt h
 refine ⟨(List.range n).map g, by simp, fun a ha => ?_, by rw [rowOf_len hf]; simp, ao, c, rfl, hn, hc, fun j u hu => ?_⟩
 · obtain ⟨i, hi, rfl⟩ := List.mem_map.1 ha
   exact (hg i (by simpa using hi)).1
 · have hj : j < n * size := by
    have := (List.getElem?_eq_some_iff.1 hu).1
    rw [rowOf_len hf] at this
    simpa using this
   have hi : j / size < n := Nat.div_lt_of_lt_mul (by rw [Nat.mul_comm]; exact hj)
   have hr : j % size < size := Nat.mod_lt _ hsz
   have he : j = j / size * size + j % size := by rw [Nat.mul_comm]; exact (Nat.div_add_mod j size).symm
   rw [he, rowOf_get hf _ _ _ (by simpa using hi) hr] at hu
   obtain ⟨b, o, h1, h2, h3⟩ := (hg _ hi).2 (j % size) u (by simpa using hu)
   exact ⟨b, o, h1, h2, by rw [he]; exact h3⟩
theorem cells_of_slice {t e : TypeId} {v : Value} {r : Reach} {b0 : Nat} (ht : P.underlying t = some (.slice e)) (h : Value.okWide P w r b0 t v) : v.cells = #[v] := by
 simp only [Value.okWide, ht, Cell.okWide] at h
 cases v <;> simp_all [Cell.ok, Value.cells]
theorem leaf_trod {k : IntKind} {T n i : Nat} {xs : List (DataW H × List MemPlace)} {l : List Value} (ht : P.underlying T = some (.int k)) (h : DataW.trod enc P w base spare held n T l = xs[i]?) (hi : i < xs.length) : ∃ z, l = [.int k z] ∧ (Lit.int k z).wf = true := by
 rw [List.getElem?_eq_getElem hi] at h
 obtain ⟨z, h1, _, h2⟩ := DataW.trod_int ht h
 exact ⟨z, h1, h2⟩
theorem bd_i64 {z : Int} (h : (Lit.int .i64 z).wf = true) : -9223372036854775808 ≤ z ∧ z ≤ 9223372036854775807 := by
 unfold Lit.wf at h
 obtain ⟨h1, h2⟩ := Bool.and_eq_true_iff.1 h
 exact ⟨of_decide_eq_true h1, of_decide_eq_true h2⟩
theorem bd_u8 {z : Int} (h : (Lit.int .u8 z).wf = true) : 0 ≤ z ∧ z ≤ 255 := by
 unfold Lit.wf at h
 obtain ⟨h1, h2⟩ := Bool.and_eq_true_iff.1 h
 exact ⟨of_decide_eq_true h1, of_decide_eq_true h2⟩
end
end
section
open Go.ChangeShapes Go.WideShapes Go.ChangeAt Go.RowKit
section
variable {P : Program} {w : World} {r : Reach} {base : Nat} {t u : TypeId} {v : Value}
theorem leaf_int {k : IntKind} (ht : P.underlying u = some (.int k)) (h : Cell.okWide P w r base u v) : ∃ n, v = .int k n ∧ k.has n := by
 simp only [Cell.okWide, ht] at h
 cases v <;> simp_all [Cell.ok]
theorem leaf_bool (ht : P.underlying u = some .bool) (h : Cell.okWide P w r base u v) : ∃ b, v = .bool b := by
 simp only [Cell.okWide, ht] at h
 cases v <;> simp_all [Cell.ok]
theorem leaf_string (ht : P.underlying u = some .string) (h : Cell.okWide P w r base u v) : ∃ s, v = .string s ∧ s.size ≤ maxLen := by
 simp only [Cell.okWide, ht] at h
 cases v <;> simp_all [Cell.ok]
 unfold maxLen
 omega
theorem leaf_i64 (ht : P.underlying u = some (.int .i64)) (h : Cell.okWide P w r base u v) : ∃ n, v = .int .i64 n ∧ -9223372036854775808 ≤ n ∧ n ≤ 9223372036854775807 := leaf_int ht h
theorem leaf_u64 (ht : P.underlying u = some (.int .u64)) (h : Cell.okWide P w r base u v) : ∃ n, v = .int .u64 n ∧ 0 ≤ n ∧ n ≤ 18446744073709551615 := leaf_int ht h
theorem leaf_u8 (ht : P.underlying u = some (.int .u8)) (h : Cell.okWide P w r base u v) : ∃ n, v = .int .u8 n ∧ 0 ≤ n ∧ n ≤ 255 := leaf_int ht h
theorem leaf_u32 (ht : P.underlying u = some (.int .u32)) (h : Cell.okWide P w r base u v) : ∃ n, v = .int .u32 n ∧ 0 ≤ n ∧ n ≤ 4294967295 := leaf_int ht h
theorem cell_of_value (hn : ∀ fs, P.underlying t ≠ some (.struct fs)) (hm : ∀ n e, P.underlying t ≠ some (.array n e)) (h : Value.okWide P w r base t v) : Cell.okWide P w r base t v := by
 unfold Value.okWide at h
 split at h
 · rename_i fs e; exact absurd e (hn fs)
 · rename_i n e e'; exact absurd e' (hm n e)
 · exact h
theorem cell_of_int {k : IntKind} (ht : P.underlying t = some (.int k)) (h : Value.okWide P w r base t v) : Cell.okWide P w r base t v := cell_of_value (by simp [ht]) (by simp [ht]) h
theorem cell_of_bool (ht : P.underlying t = some .bool) (h : Value.okWide P w r base t v) : Cell.okWide P w r base t v := cell_of_value (by simp [ht]) (by simp [ht]) h
theorem cell_of_string (ht : P.underlying t = some .string) (h : Value.okWide P w r base t v) : Cell.okWide P w r base t v := cell_of_value (by simp [ht]) (by simp [ht]) h
theorem open_row {ts : List TypeId} {cs : Array Value} (hts : P.cellTypes P.depth t = some ts) (hn : P.cellsOf t = ts.length) (hl : cs.size = P.cellsOf t) (h : Row.okWide P w r base t cs) :
 ∃ l : List Value, Value.agg cs = .agg l.toArray ∧ l.length = ts.length ∧ ∀ (i : Nat) (u : TypeId), ts[i]? = some u → ∃ x, l[i]? = some x ∧ Cell.okWide P w r base u x := by
 obtain ⟨ts', h1, _, h3⟩ := h
 rw [hts] at h1
 cases h1
 refine ⟨cs.toList, rfl, by simpa [hn] using hl, fun i u hu => ?_⟩
 have hi : i < ts.length := by
  rcases Nat.lt_or_ge i ts.length with h | h
  · exact h
  · rw [List.getElem?_eq_none h] at hu; cases hu
 have hi' : i < cs.size := by omega
 obtain ⟨u', hu', hc⟩ := h3 i cs[i] (by simp [hi'])
 rw [Nat.mod_eq_of_lt hi, hu] at hu'
 cases hu'
 exact ⟨cs[i], by simp [hi'], hc⟩
theorem open_struct {fs : Array Field} {ts : List TypeId} (ht : P.underlying t = some (.struct fs)) (hts : P.cellTypes P.depth t = some ts) (hn : P.cellsOf t = ts.length) (h : Value.okWide P w r base t v) :
 ∃ l : List Value, v = .agg l.toArray ∧ l.length = ts.length ∧ ∀ (i : Nat) (u : TypeId), ts[i]? = some u → ∃ x, l[i]? = some x ∧ Cell.okWide P w r base u x := by
 simp only [Value.okWide, ht] at h
 obtain ⟨cs, rfl, hl, hr⟩ := h
 exact open_row hts hn hl hr
end
theorem list_of {α : Type} {l m : List α} (hl : l.length = m.length) (h : ∀ i, i < m.length → l[i]? = m[i]?) : l = m := by
 refine List.ext_getElem? fun i => ?_
 rcases Nat.lt_or_ge i m.length with hi | hi
 · exact h i hi
 · rw [List.getElem?_eq_none hi, List.getElem?_eq_none (by omega)]
end
section
open Go.ChangeShapes Go.WideShapes Go.Deep Go.RowKit
instance : Inhabited It := ⟨⟨⟨#[]⟩, ⟨#[]⟩, 0, 0, 0, 0⟩⟩
end
end
section
open Go.ChangeShapes Go.WideShapes Go.Deep Go.RowKit
instance : Inhabited Clm := ⟨⟨0, ⟨#[]⟩, ⟨#[]⟩, 0, 0, 0, 0⟩⟩
def ClGood (c : Clm) : Prop := (0 ≤ c.verb ∧ c.verb ≤ 255) ∧ c.key.size ≤ maxLen ∧ c.val.size ≤ maxLen ∧ (0 ≤ c.fl ∧ c.fl ≤ 4294967295) ∧ (-9223372036854775808 ≤ c.exp ∧ c.exp ≤ 9223372036854775807) ∧ (0 ≤ c.id ∧ c.id ≤ 18446744073709551615) ∧ (0 ≤ c.by_ ∧ c.by_ ≤ 18446744073709551615)
section
variable {H : Type} {enc : TypeId × Value → H} {w : World} {base : Nat} {spare : Nat → Bool} {held : Bool}
theorem oc_verb : Tryz.prog.cellsOf 22 = 1 := by kernel_rfl
theorem oc_str : Tryz.prog.cellsOf 9 = 1 := by kernel_rfl
theorem oc_u32 : Tryz.prog.cellsOf 23 = 1 := by kernel_rfl
theorem oc_i64 : Tryz.prog.cellsOf 2 = 1 := by kernel_rfl
theorem oc_u64 : Tryz.prog.cellsOf 24 = 1 := by kernel_rfl
theorem oc_call : Tryz.prog.cellsOf 26 = 7 := by kernel_rfl
theorem wf_u32 {z : Int} (h : (Lit.int .u32 z).wf = true) : 0 ≤ z ∧ z ≤ 4294967295 := by
 unfold Lit.wf at h
 obtain ⟨h1, h2⟩ := Bool.and_eq_true_iff.1 h
 exact ⟨of_decide_eq_true h1, of_decide_eq_true h2⟩
theorem wf_u64 {z : Int} (h : (Lit.int .u64 z).wf = true) : 0 ≤ z ∧ z ≤ 18446744073709551615 := by
 unfold Lit.wf at h
 obtain ⟨h1, h2⟩ := Bool.and_eq_true_iff.1 h
 exact ⟨of_decide_eq_true h1, of_decide_eq_true h2⟩
theorem oc_leaf {T n i : Nat} {xs : List (DataW H × List MemPlace)} {l : List Value} (ht : Tryz.prog.underlying T = some .string) (h : DataW.trod enc Tryz.prog w base spare held n T l = xs[i]?) (hi : i < xs.length) : ∃ z : ByteArray, l = [.string z] ∧ z.size ≤ maxLen := by
 rw [List.getElem?_eq_getElem hi] at h
 obtain ⟨z, h1, _, h2⟩ := DataW.trod_string ht h
 exact ⟨z, h1, h2⟩
theorem call_of_trod {fuel : Nat} {cs : List Value} {x : DataW H × List MemPlace} (h : DataW.trod enc Tryz.prog w base spare held fuel 26 cs = some x) : ∃ p : Clm, ClGood p ∧ clCs p = cs := by
 obtain ⟨xs, n, _, _, hlen, hxl, hf⟩ := DataW.trod_struct Tryz.underlying26 h
 rw [oc_call] at hlen
 match cs, hlen with
 | [c0, c1, c2, c3, c4, c5, c6], _ =>
   have hx : xs.length = 7 := hxl
   have f0 : DataW.trod enc Tryz.prog w base spare held n 22 (List.take (Tryz.prog.cellsOf 22) (List.drop 0 [c0, c1, c2, c3, c4, c5, c6])) = xs[0]? := hf 0 _ rfl
   have f1 : DataW.trod enc Tryz.prog w base spare held n 9 (List.take (Tryz.prog.cellsOf 9) (List.drop 1 [c0, c1, c2, c3, c4, c5, c6])) = xs[1]? := hf 1 _ rfl
   have f2 : DataW.trod enc Tryz.prog w base spare held n 9 (List.take (Tryz.prog.cellsOf 9) (List.drop 2 [c0, c1, c2, c3, c4, c5, c6])) = xs[2]? := hf 2 _ rfl
   have f3 : DataW.trod enc Tryz.prog w base spare held n 23 (List.take (Tryz.prog.cellsOf 23) (List.drop 3 [c0, c1, c2, c3, c4, c5, c6])) = xs[3]? := hf 3 _ rfl
   have f4 : DataW.trod enc Tryz.prog w base spare held n 2 (List.take (Tryz.prog.cellsOf 2) (List.drop 4 [c0, c1, c2, c3, c4, c5, c6])) = xs[4]? := hf 4 _ rfl
   have f5 : DataW.trod enc Tryz.prog w base spare held n 24 (List.take (Tryz.prog.cellsOf 24) (List.drop 5 [c0, c1, c2, c3, c4, c5, c6])) = xs[5]? := hf 5 _ rfl
   have f6 : DataW.trod enc Tryz.prog w base spare held n 24 (List.take (Tryz.prog.cellsOf 24) (List.drop 6 [c0, c1, c2, c3, c4, c5, c6])) = xs[6]? := hf 6 _ rfl
   rw [oc_verb] at f0
   rw [oc_str] at f1 f2
   rw [oc_u32] at f3
   rw [oc_i64] at f4
   rw [oc_u64] at f5 f6
   obtain ⟨z0, e0, w0⟩ := leaf_trod Tryz.underlying22 f0 (by omega)
   obtain ⟨z1, e1, w1⟩ := oc_leaf Tryz.underlying9 f1 (by omega)
   obtain ⟨z2, e2, w2⟩ := oc_leaf Tryz.underlying9 f2 (by omega)
   obtain ⟨z3, e3, w3⟩ := leaf_trod Tryz.underlying23 f3 (by omega)
   obtain ⟨z4, e4, w4⟩ := leaf_trod Tryz.underlying2 f4 (by omega)
   obtain ⟨z5, e5, w5⟩ := leaf_trod Tryz.underlying24 f5 (by omega)
   obtain ⟨z6, e6, w6⟩ := leaf_trod Tryz.underlying24 f6 (by omega)
   simp at e0 e1 e2 e3 e4 e5 e6
   subst e0 e1 e2 e3 e4 e5 e6
   exact ⟨⟨z0, z1, z2, z3, z4, z5, z6⟩, ⟨bd_u8 w0, w1, w2, wf_u32 w3, bd_i64 w4, wf_u64 w5, wf_u64 w6⟩, rfl⟩
theorem open_calls {v : Value} {d : DataW H} {p : List MemPlace} {r : Reach} {b0 : Nat} (h : DataW.Trod enc Tryz.prog w base spare held 27 v d p) (ho : Value.okWide Tryz.prog w r b0 27 v) :
 ∃ l : List Clm, (∀ q ∈ l, ClGood q) ∧ Arr w v l.length 7 (rowOf clCs l) := by
 obtain ⟨fuel, hf⟩ := h
 rw [cells_of_slice Tryz.underlying27 ho] at hf
 obtain ⟨ao, n, c, he, hn, hc, hi⟩ := slice_of_trod Tryz.underlying27 oc_call (by omega) hf
 cases he
 obtain ⟨l, hl, hg, hA⟩ := arr_of_slice (α := Clm) (size := 7) (f := clCs) (good := ClGood) (by omega) (fun _ => rfl) hn hc (fun i hin => by
  obtain ⟨R, hR, ⟨fuel', d', hT⟩, hx⟩ := hi i hin
  obtain ⟨q, hok, rfl⟩ := call_of_trod hT
  exact ⟨q, hok, hx⟩)
 rw [← hl] at hA
 exact ⟨l, hg, by rw [hl] at hA ⊢; exact hA⟩
end
end
end Go.Proofs.YtifkfhnbkjkakaaGreatDoor
