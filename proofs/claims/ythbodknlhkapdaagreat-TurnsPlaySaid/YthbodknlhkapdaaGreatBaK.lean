/- Parts of the walk. -/
import Derived.Test.YthbodknlhkapdaaGreatBaB
import Derived.Test.YthbodknlhkapdaaGreatBaI
import Derived.Below
import Derived.ChangeOld
import Derived.Deep.Slices
import Derived.OpenShut
import Derived.ProofKit
import Derived.ShutString
import Derived.Test.YthbodknlhkapdaaGreatRows
import Derived.WalkKit
namespace Go.Proofs.YthbodknlhkapdaaGreat
set_option linter.unusedVariables false
set_option linter.unusedSimpArgs false
set_option maxHeartbeats 4000000
set_option maxRecDepth 100000
section
section
open Go.ChangeShapes Go.WideShapes Go.Deep Go.RowKit
section
variable {H : Type} {enc : TypeId × Value → H} {P : Program} {w : World} {base : Nat} {spare : Nat → Bool} {held : Bool}
theorem Ak5 {a : Addr} {u : Value} (h : w.cell? a = some u) : a.block < w.heap.size := by
 unfold World.cell? at h
 split at h
 · rename_i he; exact (Array.getElem?_eq_some_iff.1 he).1
 cases h
theorem Aeo {a : Addr} {u : Value} (h : w.cell? a = some u) : a.spot = none := by
 unfold World.cell? at h
 split at h
 · split at h
   · cases h
   rename_i hs; simpa using hs
 cases h
theorem Aw3 {a : Addr} {u : Value} {n : Nat} (h : w.cell? (a.add n) = some u) (hs : a.spot = none) : w.cell? ⟨a.block, a.off + n, none⟩ = some u := by
 unfold Addr.add at h
 split at h
 · rename_i hn; subst hn; rw [Nat.add_zero, ← hs]; exact h
 exact h
theorem Aj6 {t e : TypeId} {size fuel : Nat} {cs : List Value} {x : DataW H × List MemPlace} (ht : P.underlying t = some (.slice e)) (hC : P.cellsOf e = size) (hsz : 0 < size)
 (h : DataW.trod enc P w base spare held fuel t cs = some x) :
 ∃ ao n c, cs = [.slice ao n c] ∧ n ≤ c ∧ c ≤ maxLen ∧ ∀ i, i < n → ∃ R : List Value, R.length = size ∧ (∃ fuel' d, DataW.trod enc P w base spare held fuel' e R = some d) ∧
  ∀ j u, R[j]? = some u → ∃ b o, ao = some ⟨b, o, none⟩ ∧ b < w.heap.size ∧ w.cell? ⟨b, o + (i * size + j), none⟩ = some u := by
 rcases open_slice ht h with ⟨rfl, -⟩ | ⟨a, len, cap, m, n, D, Pl, rfl, hb, hl, hm, hmm, -, hi⟩
 · exact ⟨none, 0, 0, rfl, Nat.le_refl _, by unfold maxLen; omega, fun i hi => absurd hi (by omega)⟩
 refine ⟨some a, len, cap, rfl, hl, hm, fun i hil => ?_⟩
 have hlm : len ≤ m := by rw [hmm]; split <;> omega
 obtain ⟨R, hR, hT⟩ := hi i (by omega)
 rw [hC] at hR
 obtain ⟨_, hlen, hat⟩ := World.cells?_some hR
 refine ⟨R, hlen, ⟨_, _, hT⟩, fun j u hu => ?_⟩
 have hj : j < size := by rw [← hlen]; exact (List.getElem?_eq_some_iff.1 hu).1
 have hc := (hat j hj).trans hu
 have hs : a.spot = none := by
  by_cases h0 : i * size = 0 ∧ j = 0
  · obtain ⟨h0, rfl⟩ := h0
    rw [h0] at hc
    exact Aeo hc
  have h00 := (hat 0 hsz).trans (List.getElem?_eq_getElem (by omega))
  have h1 := Aeo h00
  by_cases hz : i = 0
  · subst hz
    rw [Nat.zero_mul] at h1
    exact h1
  obtain ⟨R0, hR0, hT0⟩ := hi 0 (by omega)
  rw [hC] at hR0
  obtain ⟨_, hlen0, hat0⟩ := World.cells?_some hR0
  have h2 := Aeo ((hat0 0 hsz).trans (List.getElem?_eq_getElem (by omega)))
  rw [Nat.zero_mul] at h2
  exact h2
 have hc2 : w.cell? (a.add (i * size + j)) = some u := by
  rw [show a.add (i * size + j) = (a.add (i * size)).add j by first | exact Go.Deep.add_add _ _ _ | exact (Go.Deep.add_add _ _ _).symm]
  exact hc
 have ha : a = ⟨a.block, a.off, none⟩ := by cases a; simp at hs; subst hs; rfl
 exact ⟨a.block, a.off, congrArg some ha, Ak5 (a := ⟨a.block, a.off + (i * size + j), none⟩) (Aw3 hc2 hs), Aw3 hc2 hs⟩
theorem Amu {α : Type} [Inhabited α] {f : α → List Value} {good : α → Prop} {ao : Option Addr} {n c size : Nat} (hsz : 0 < size) (hf : ∀ a, (f a).length = size) (hn : n ≤ c) (hc : c ≤ maxLen)
 (h : ∀ i, i < n → ∃ a : α, good a ∧ ∀ j u, (f a)[j]? = some u → ∃ b o, ao = some ⟨b, o, none⟩ ∧ b < w.heap.size ∧ w.cell? ⟨b, o + (i * size + j), none⟩ = some u) :
 ∃ l : List α, l.length = n ∧ (∀ a ∈ l, good a) ∧ Arr w (.slice ao n c) n size (Aa2 f l) := by
 obtain ⟨g, hg⟩ := choose_lt h
 refine ⟨(List.range n).map g, by simp, fun a ha => ?_, by rw [Afw hf]; simp, ao, c, rfl, hn, hc, fun j u hu => ?_⟩
 · obtain ⟨i, hi, rfl⟩ := List.mem_map.1 ha
   exact (hg i (by simpa using hi)).1
 have hj : j < n * size := by
  have := (List.getElem?_eq_some_iff.1 hu).1
  rw [Afw hf] at this
  simpa using this
 have hi : j / size < n := Nat.div_lt_of_lt_mul (by rw [Nat.mul_comm]; exact hj)
 have hr : j % size < size := Nat.mod_lt _ hsz
 have he : j = j / size * size + j % size := by rw [Nat.mul_comm]; exact (Nat.div_add_mod j size).symm
 rw [he, Abk hf _ _ _ (by simpa using hi) hr] at hu
 obtain ⟨b, o, h1, h2, h3⟩ := (hg _ hi).2 (j % size) u (by simpa using hu)
 exact ⟨b, o, h1, h2, by rw [he]; exact h3⟩
theorem Aja {t e : TypeId} {v : Value} {r : Reach} {b0 : Nat} (ht : P.underlying t = some (.slice e)) (h : Value.okWide P w r b0 t v) : v.cells = #[v] := by
 simp only [Value.okWide, ht, Cell.okWide] at h
 cases v <;> simp_all [Cell.ok, Value.cells]
theorem Abc {k : IntKind} {T n i : Nat} {xs : List (DataW H × List MemPlace)} {l : List Value} (ht : P.underlying T = some (.int k)) (h : DataW.trod enc P w base spare held n T l = xs[i]?) (hi : i < xs.length) : ∃ z, l = [.int k z] ∧ (Lit.int k z).wf = true := by
 rw [List.getElem?_eq_getElem hi] at h
 obtain ⟨z, h1, _, h2⟩ := DataW.trod_int ht h
 exact ⟨z, h1, h2⟩
theorem Aw2 {z : Int} (h : (Lit.int .i64 z).wf = true) : -9223372036854775808 ≤ z ∧ z ≤ 9223372036854775807 := by
 unfold Lit.wf at h
 obtain ⟨h1, h2⟩ := Bool.and_eq_true_iff.1 h
 exact ⟨of_decide_eq_true h1, of_decide_eq_true h2⟩
theorem Aoc {z : Int} (h : (Lit.int .u8 z).wf = true) : 0 ≤ z ∧ z ≤ 255 := by
 unfold Lit.wf at h
 obtain ⟨h1, h2⟩ := Bool.and_eq_true_iff.1 h
 exact ⟨of_decide_eq_true h1, of_decide_eq_true h2⟩
end
end
section
open Go.ChangeShapes Go.WideShapes Go.Deep Go.RowKit
instance : Inhabited It := ⟨⟨⟨#[]⟩, ⟨#[]⟩, 0, 0, 0, 0⟩⟩
theorem Aw0 {z : Int} (h : (Lit.int .u64 z).wf = true) : 0 ≤ z ∧ z ≤ 18446744073709551615 := by
 unfold Lit.wf at h
 obtain ⟨h1, h2⟩ := Bool.and_eq_true_iff.1 h
 exact ⟨of_decide_eq_true h1, of_decide_eq_true h2⟩
def Bdg (p : Int × Int × Int) : Prop := (0 ≤ p.1 ∧ p.1 < 256) ∧ (0 ≤ p.2.1 ∧ p.2.1 < 256) ∧ (0 ≤ p.2.2 ∧ p.2.2 < 256)
def Bdf (p : Int × Int) : Prop := (0 ≤ p.1 ∧ p.1 < 18446744073709551616) ∧ (0 ≤ p.2 ∧ p.2 < 18446744073709551616)
structure Azs (F : Fst) : Prop where
 pub : ∀ p ∈ F.pu, Bdg p
 stb : ∀ p ∈ F.st, Bdf p
 ti0 : -9223372036854775808 ≤ F.ti
 ti1 : F.ti ≤ 9223372036854775807
structure Amy (w : World) (v : Value) (F : Fst) : Prop where
 ex : ∃ vi vp vs, v = Ax3 F vi vp vs ∧ Arr w vi F.it.length 6 (Aa2 itc F.it) ∧ Arr w vp F.pu.length 3 (Aa2 Bad F.pu) ∧ Arr w vs F.st.length 2 (Aa2 Azt F.st)
section
variable {H : Type} {enc : TypeId × Value → H} {w : World} {base : Nat} {spare : Nat → Bool} {held : Bool}
theorem Agn : Tryz.prog.cellsOf 3 = 1 := by kernel_rfl
theorem Ant : Tryz.prog.cellsOf 4 = 1 := by kernel_rfl
theorem Al2 : Tryz.prog.cellsOf 5 = 1 := by kernel_rfl
theorem Aju : Tryz.prog.cellsOf 37 = 1 := by kernel_rfl
theorem Aqh : Tryz.prog.cellsOf 56 = 1 := by kernel_rfl
theorem Anu : Tryz.prog.cellsOf 38 = 1 := by kernel_rfl
theorem Aqi : Tryz.prog.cellsOf 9 = 1 := by kernel_rfl
theorem Aii : Tryz.prog.cellsOf 58 = 6 := by kernel_rfl
theorem Ajv : Tryz.prog.cellsOf 81 = 3 := by kernel_rfl
theorem Aet : Tryz.prog.cellsOf 40 = 2 := by kernel_rfl
theorem Aij : Tryz.prog.cellsOf 23 = 5 := by kernel_rfl
theorem Al3 : Tryz.prog.cellsOf 28 = 10 := by kernel_rfl
theorem Aqj : Tryz.prog.cellsOf 24 = 1 := by kernel_rfl
theorem Ans : Tryz.prog.cellsOf 25 = 1 := by kernel_rfl
theorem Akw : Tryz.prog.cellsOf 26 = 1 := by kernel_rfl
theorem Ao1 {T n i : Nat} {xs : List (DataW H × List MemPlace)} {l : List Value} (ht : Tryz.prog.underlying T = some .string) (h : DataW.trod enc Tryz.prog w base spare held n T l = xs[i]?) (hi : i < xs.length) : ∃ z, l = [.string z] := by
 rw [List.getElem?_eq_getElem hi] at h
 obtain ⟨z, h1, _, h2⟩ := DataW.trod_string ht h
 exact ⟨z, h1⟩
theorem Axz {T n i : Nat} {xs : List (DataW H × List MemPlace)} {l : List Value} (ht : Tryz.prog.underlying T = some .bool) (h : DataW.trod enc Tryz.prog w base spare held n T l = xs[i]?) (hi : i < xs.length) : ∃ z, l = [.bool z] := by
 rw [List.getElem?_eq_getElem hi] at h
 obtain ⟨z, h1, _⟩ := DataW.trod_bool ht h
 exact ⟨z, h1⟩
theorem Alz {fuel : Nat} {cs : List Value} {x : DataW H × List MemPlace} (h : DataW.trod enc Tryz.prog w base spare held fuel 58 cs = some x) : ∃ p : It, True ∧ itc p = cs := by
 obtain ⟨xs, n, _, _, hlen, hxl, hf⟩ := DataW.trod_struct Tryz.underlying58 h
 rw [Aii] at hlen
 match cs, hlen with
 | [c0, c1, c2, c3, c4, c5], _ =>
   have hx : xs.length = 6 := hxl
   have f0 := hf 0 ⟨_, 9, 0, _, _, _, _⟩ rfl
   have f1 := hf 1 ⟨_, 9, 1, _, _, _, _⟩ rfl
   have f2 := hf 2 ⟨_, 56, 2, _, _, _, _⟩ rfl
   have f3 := hf 3 ⟨_, 37, 3, _, _, _, _⟩ rfl
   have f4 := hf 4 ⟨_, 3, 4, _, _, _, _⟩ rfl
   have f5 := hf 5 ⟨_, 3, 5, _, _, _, _⟩ rfl
   dsimp only at f0 f1 f2 f3 f4 f5
   rw [Aqi] at f0 f1
   rw [Aqh] at f2
   rw [Aju] at f3
   rw [Agn] at f4 f5
   obtain ⟨z0, e0⟩ := Ao1 Tryz.underlying9 f0 (by omega)
   obtain ⟨z1, e1⟩ := Ao1 Tryz.underlying9 f1 (by omega)
   obtain ⟨z2, e2, w2⟩ := Abc Tryz.underlying56 f2 (by omega)
   obtain ⟨z3, e3, w3⟩ := Abc Tryz.underlying37 f3 (by omega)
   obtain ⟨z4, e4, w4⟩ := Abc Tryz.underlying3 f4 (by omega)
   obtain ⟨z5, e5, w5⟩ := Abc Tryz.underlying3 f5 (by omega)
   simp at e0 e1 e2 e3 e4 e5
   subst e0 e1 e2 e3 e4 e5
   exact ⟨⟨z0, z1, z2, z3, z4, z5⟩, trivial, rfl⟩
theorem Anj {fuel : Nat} {cs : List Value} {x : DataW H × List MemPlace} (h : DataW.trod enc Tryz.prog w base spare held fuel 81 cs = some x) : ∃ p : Int × Int × Int, Bdg p ∧ Bad p = cs := by
 obtain ⟨xs, n, _, _, hlen, hxl, hf⟩ := DataW.trod_struct Tryz.underlying81 h
 rw [Ajv] at hlen
 match cs, hlen with
 | [c0, c1, c2], _ =>
   have hx : xs.length = 3 := hxl
   have f0 := hf 0 ⟨_, 5, 0, _, _, _, _⟩ rfl
   have f1 := hf 1 ⟨_, 5, 1, _, _, _, _⟩ rfl
   have f2 := hf 2 ⟨_, 5, 2, _, _, _, _⟩ rfl
   dsimp only at f0 f1 f2
   rw [Al2] at f0 f1 f2
   obtain ⟨z0, e0, w0⟩ := Abc Tryz.underlying5 f0 (by omega)
   obtain ⟨z1, e1, w1⟩ := Abc Tryz.underlying5 f1 (by omega)
   obtain ⟨z2, e2, w2⟩ := Abc Tryz.underlying5 f2 (by omega)
   simp at e0 e1 e2
   subst e0 e1 e2
   have b0 := Aoc w0
   have b1 := Aoc w1
   have b2 := Aoc w2
   exact ⟨(z0, z1, z2), ⟨⟨b0.1, by show z0 < 256; omega⟩, ⟨b1.1, by show z1 < 256; omega⟩, ⟨b2.1, by show z2 < 256; omega⟩⟩, rfl⟩
theorem Afv {fuel : Nat} {cs : List Value} {x : DataW H × List MemPlace} (h : DataW.trod enc Tryz.prog w base spare held fuel 40 cs = some x) : ∃ p : Int × Int, Bdf p ∧ Azt p = cs := by
 obtain ⟨xs, n, _, _, hlen, hxl, hf⟩ := DataW.trod_struct Tryz.underlying40 h
 rw [Aet] at hlen
 match cs, hlen with
 | [c0, c1], _ =>
   have hx : xs.length = 2 := hxl
   have f0 := hf 0 ⟨_, 38, 0, _, _, _, _⟩ rfl
   have f1 := hf 1 ⟨_, 37, 1, _, _, _, _⟩ rfl
   dsimp only at f0 f1
   rw [Anu] at f0
   rw [Aju] at f1
   obtain ⟨z0, e0, w0⟩ := Abc Tryz.underlying38 f0 (by omega)
   obtain ⟨z1, e1, w1⟩ := Abc Tryz.underlying37 f1 (by omega)
   simp at e0 e1
   subst e0 e1
   have b0 := Aw0 w0
   have b1 := Aw0 w1
   exact ⟨(z0, z1), ⟨⟨b0.1, by show z0 < 18446744073709551616; omega⟩, ⟨b1.1, by show z1 < 18446744073709551616; omega⟩⟩, rfl⟩
theorem Al7 {fuel : Nat} {cs : List Value} {x : DataW H × List MemPlace} (h : DataW.trod enc Tryz.prog w base spare held fuel 23 cs = some x) : ∃ f : Cf, cfL f = cs := by
 obtain ⟨xs, n, _, _, hlen, hxl, hf⟩ := DataW.trod_struct Tryz.underlying23 h
 rw [Aij] at hlen
 match cs, hlen with
 | [c0, c1, c2, c3, c4], _ =>
   have hx : xs.length = 5 := hxl
   have f0 := hf 0 ⟨_, 3, 0, _, _, _, _⟩ rfl
   have f1 := hf 1 ⟨_, 3, 1, _, _, _, _⟩ rfl
   have f2 := hf 2 ⟨_, 3, 2, _, _, _, _⟩ rfl
   have f3 := hf 3 ⟨_, 3, 3, _, _, _, _⟩ rfl
   have f4 := hf 4 ⟨_, 3, 4, _, _, _, _⟩ rfl
   dsimp only at f0 f1 f2 f3 f4
   rw [Agn] at f0 f1 f2 f3 f4
   obtain ⟨z0, e0, w0⟩ := Abc Tryz.underlying3 f0 (by omega)
   obtain ⟨z1, e1, w1⟩ := Abc Tryz.underlying3 f1 (by omega)
   obtain ⟨z2, e2, w2⟩ := Abc Tryz.underlying3 f2 (by omega)
   obtain ⟨z3, e3, w3⟩ := Abc Tryz.underlying3 f3 (by omega)
   obtain ⟨z4, e4, w4⟩ := Abc Tryz.underlying3 f4 (by omega)
   simp at e0 e1 e2 e3 e4
   subst e0 e1 e2 e3 e4
   exact ⟨⟨z0, z1, z2, z3, z4⟩, rfl⟩
theorem Ado {α : Type} [Inhabited α] {T E size fuel : Nat} {f : α → List Value} {good : α → Prop} {cs : List Value} {x : DataW H × List MemPlace} (hT : Tryz.prog.underlying T = some (.slice E)) (hC : Tryz.prog.cellsOf E = size) (hsz : 0 < size) (hfl : ∀ a, (f a).length = size)
 (hE : ∀ {fuel : Nat} {cs : List Value} {x : DataW H × List MemPlace}, DataW.trod enc Tryz.prog w base spare held fuel E cs = some x → ∃ p : α, good p ∧ f p = cs)
 (h : DataW.trod enc Tryz.prog w base spare held fuel T cs = some x) : ∃ (v : Value) (l : List α), cs = [v] ∧ (∀ a ∈ l, good a) ∧ Arr w v l.length size (Aa2 f l) := by
 obtain ⟨ao, n, c, he, hn, hc, hi⟩ := Aj6 hT hC hsz h
 obtain ⟨l, hl, hg, hA⟩ := Amu (α := α) (size := size) (f := f) (good := good) hsz hfl hn hc (fun i hin => by
  obtain ⟨R, hR, ⟨fuel', d', hT⟩, hx⟩ := hi i hin
  obtain ⟨q, hok, rfl⟩ := hE hT
  exact ⟨q, hok, hx⟩)
 subst hl
 exact ⟨_, l, he, hg, hA⟩
theorem open_first {v : Value} {d : DataW H} {p : List MemPlace} {r : Reach} {b0 : Nat} (h : DataW.Trod enc Tryz.prog w base spare held 28 v d p) (ho : Value.okWide Tryz.prog w r b0 28 v) :
 ∃ F : Fst, Azs F ∧ Amy w v F := by
 obtain ⟨fuel, hf⟩ := h
 simp only [Value.okWide, Tryz.underlying28] at ho
 obtain ⟨ca, rfl, hl, hr⟩ := ho
 rw [Al3] at hl
 have hf : DataW.trod enc Tryz.prog w base spare held fuel 28 ca.toList = some (d, p) := hf
 obtain ⟨cs, hcs⟩ := exq ca.toList
 have hca : ca = cs.toArray := by rw [hcs]
 have hlc : cs.length = 10 := by rw [hcs]; simpa using hl
 subst hca
 have hf : DataW.trod enc Tryz.prog w base spare held fuel 28 cs = some (d, p) := by simpa using hf
 clear hcs hl hr
 obtain ⟨xs, n, _, _, hlen, hxl, hg⟩ := DataW.trod_struct Tryz.underlying28 hf
 match cs, hlc with
 | [c0, c1, c2, c3, c4, c5, c6, c7, c8, c9], _ =>
   have hx : xs.length = 6 := hxl
   have f0 := hg 0 ⟨_, 23, 0, _, _, _, _⟩ rfl
   have f1 := hg 1 ⟨_, 4, 5, _, _, _, _⟩ rfl
   have f2 := hg 2 ⟨_, 24, 6, _, _, _, _⟩ rfl
   have f3 := hg 3 ⟨_, 25, 7, _, _, _, _⟩ rfl
   have f4 := hg 4 ⟨_, 26, 8, _, _, _, _⟩ rfl
   have f5 := hg 5 ⟨_, 3, 9, _, _, _, _⟩ rfl
   dsimp only at f0 f1 f2 f3 f4 f5
   rw [Aij, List.getElem?_eq_getElem (by omega)] at f0
   rw [Ant] at f1
   rw [Aqj, List.getElem?_eq_getElem (by omega)] at f2
   rw [Ans, List.getElem?_eq_getElem (by omega)] at f3
   rw [Akw, List.getElem?_eq_getElem (by omega)] at f4
   rw [Agn] at f5
   obtain ⟨cf, e0⟩ := Al7 f0
   obtain ⟨gr, e1⟩ := Axz Tryz.underlying4 f1 (by omega)
   obtain ⟨vi, it, e2, g2, a2⟩ := Ado (α := It) (f := itc) (good := fun _ => True) Tryz.underlying24 Aii (by omega) Agk Alz f2
   obtain ⟨vp, pu, e3, g3, a3⟩ := Ado (α := Int × Int × Int) (f := Bad) (good := Bdg) Tryz.underlying25 Ajv (by omega) (fun _ => rfl) Anj f3
   obtain ⟨vs, st, e4, g4, a4⟩ := Ado (α := Int × Int) (f := Azt) (good := Bdf) Tryz.underlying26 Aet (by omega) (fun _ => rfl) Afv f4
   obtain ⟨ti, e5, w5⟩ := Abc Tryz.underlying3 f5 (by omega)
   unfold cfL at e0
   simp at e0 e1 e2 e3 e4 e5
   obtain ⟨q0, q1, q2, q3, q4⟩ := e0
   subst q0 q1 q2 q3 q4 e1 e2 e3 e4 e5
   exact ⟨⟨cf, gr, it, pu, st, ti⟩, ⟨g3, g4, (Aw2 w5).1, (Aw2 w5).2⟩, ⟨_, _, _, rfl, a2, a3, a4⟩⟩
end
end
section
open Go.RowKit
def Auc (w : World) (F : Fst) (e : Ending) (w' : World) : Prop :=
 ∃ b : Bool, e = .returned (.bool b) ∧ Below w.heap.size w w' ∧ (b = false → F.it.length ≤ 40 ∧ F.pu.length ≤ 60 ∧ F.st.length ≤ 60 ∧ ∀ x ∈ F.it, x.key.size ≤ 400)
theorem Amy.into {w : World} {v : Value} {F : Fst} (h : Amy w v F) (g : Azs F) (b : F.it.length ≤ 40 ∧ F.pu.length ≤ 60 ∧ F.st.length ≤ 60 ∧ ∀ x ∈ F.it, x.key.size ≤ 400) : ∃ vi vp vs, v = Ax3 F vi vp vs ∧ Bby w F vi vp vs := by
 obtain ⟨vi, vp, vs, rfl, h1, h2, h3⟩ := h.ex
 exact ⟨vi, vp, vs, rfl, ⟨h1, h2, h3, b.1, b.2.1, b.2.2.1, b.2.2.2, g.pub, g.stb, g.ti0, g.ti1⟩⟩
theorem Amy.below {w w' : World} {v : Value} {F : Fst} (h : Amy w v F) (hb : Below w.heap.size w w') : Amy w' v F := by
 obtain ⟨vi, vp, vs, rfl, h1, h2, h3⟩ := h.ex
 exact ⟨vi, vp, vs, rfl, h1.below hb, h2.below hb, h3.below hb⟩
theorem Azg {F : Fst} {v : Value} {w : World} (h : Amy w v F) : Calls Tryz.prog 4 #[v] w (Auc w F) := by
 obtain ⟨⟨fb, fg, ft, fq, fy⟩, gr, it, pu, st, ti⟩ := F
 obtain ⟨vi, vp, vs, rfl, h1, h2, h3⟩ := h.ex
 unfold Ax3
 dsimp only at h1 h2 h3 ⊢
 obtain ⟨ai, ci, rfl, hci, hmi⟩ := h1.shape
 obtain ⟨ap, cp, rfl, hcp, hmp⟩ := h2.shape
 obtain ⟨as', cs, rfl, hcs, hms⟩ := h3.shape
 have HA := hQd h1
 clear h h1 h2 h3
 have hmm : ci ≤ 9223372036854775807 := by unfold maxLen at hmi; omega
 by_cases d1 : 40 < it.length
 · have t1 : decide ((40 : Int) < (it.length : Int)) = true := by simp; omega
   go_enter Tryz.func4, Tryz.ntmps4
   go_wp2_with fail
   go_ret
   exact ⟨true, rfl, bal _ _, fun h => by cases h⟩
 have t1 : decide ((40 : Int) < (it.length : Int)) = false := by simp; omega
 by_cases d2 : 60 < pu.length
 · have t2 : decide ((60 : Int) < (pu.length : Int)) = true := by simp; omega
   go_enter Tryz.func4, Tryz.ntmps4
   go_wp2_with fail
   go_ret
   exact ⟨true, rfl, bal _ _, fun h => by cases h⟩
 have t2 : decide ((60 : Int) < (pu.length : Int)) = false := by simp; omega
 by_cases d3 : 60 < st.length
 · have t3 : decide ((60 : Int) < (st.length : Int)) = true := by simp; omega
   go_enter Tryz.func4, Tryz.ntmps4
   go_wp2_with fail
   go_ret
   exact ⟨true, rfl, bal _ _, fun h => by cases h⟩
 have t3 : decide ((60 : Int) < (st.length : Int)) = false := by simp; omega
 go_enter Tryz.func4, Tryz.ntmps4
 go_wp2_with fail
 obtain ⟨W1, hW1⟩ := exq (w.alloc (.cells #[.int .i64 fb, .int .i64 fg, .int .i64 ft, .int .i64 fq, .int .i64 fy, .bool gr, .slice ai it.length ci, .slice ap pu.length cp, .slice as' st.length cs, .int .i64 ti] 28))
 have HB : Hid (Below w.heap.size w W1) := hQd (by rw [hW1]; exact bal _ _)
 have y6 : W1.cell? ⟨w.heap.size, 6, none⟩ = some (.slice ai it.length ci) := by rw [hW1]; simp
 rw [← hW1]
 clear hW1 t1 t2 t3
 go_loopw [3] (fun i wr => ∃ k : Nat, k ≤ it.length ∧ i = .int .i64 k ∧ wr = W1 ∧ Hid (∀ j, (hj : j < it.length) → j < k → it[j].key.size ≤ 400)) (fun i _ => it.length - (intOf i).toNat)
 case atStart => exact ⟨0, Nat.zero_le _, rfl, rfl, hQd fun j _ h => by omega⟩
 obtain ⟨k, hk, rfl, rfl, hno⟩ := hrel
 by_cases hk2 : k < it.length
 · obtain ⟨b', o', c', he, -, -, hlt, hx⟩ := HA.out.open (by omega) (by omega)
   cases he
   obtain ⟨x, hxe⟩ := exq (it[k])
   have hr : ∀ j, j < 6 → (Aa2 itc it)[k * 6 + j]? = (itc x)[j]? := fun j hj => by rw [hxe]; exact Abk Agk it k j hk2 hj
   have v0 : wr.cell? ⟨b', o' + k * 6, none⟩ = some (.string x.key) := (HB.out.cell (p := ⟨b', o' + k * 6, none⟩) hlt).trans (hx _ _ (hr 0 (by omega)))
   have v1 : wr.cell? ⟨b', o' + k * 6 + 1, none⟩ = some (.string x.val) := (HB.out.cell (p := ⟨b', o' + k * 6 + 1, none⟩) hlt).trans (hx _ _ (hr 1 (by omega)))
   have HX := hQd hxe
   clear hx hr hxe
   by_cases q1 : 400 < x.key.size
   · have s1 : decide ((400 : Int) < (x.key.size : Int)) = true := by simp; omega
     go_wp2_with fail
     go_ret
     exact ⟨true, rfl, HB.out, fun h => by cases h⟩
   have s1 : decide ((400 : Int) < (x.key.size : Int)) = false := by simp; omega
   by_cases q2 : 2000 < x.val.size
   · have s2 : decide ((2000 : Int) < (x.val.size : Int)) = true := by simp; omega
     go_wp2_with fail
     go_ret
     exact ⟨true, rfl, HB.out, fun h => by cases h⟩
   have s2 : decide ((2000 : Int) < (x.val.size : Int)) = false := by simp; omega
   go_wp2_with fail
   go_roundw
   case rel =>
    refine ⟨k + 1, by omega, by go_num, (by first | trivial | rfl), hQd fun j hj hjk => ?_⟩
    by_cases e : j = k
    · subst e; rw [← HX.out]; omega
    exact hno.out j hj (by omega)
   case measure => simp [intOf]; omega
 obtain rfl : k = it.length := by omega
 go_wp2_with fail
 go_ret
 exact ⟨false, rfl, HB.out, fun _ => ⟨by show it.length ≤ 40; omega, by show pu.length ≤ 60; omega, by show st.length ≤ 60; omega, fun x hx => by
  obtain ⟨j, hj, rfl⟩ := List.getElem_of_mem hx
  exact hno.out j hj hj⟩⟩
end
end
section
open Go.ChangeShapes Go.WideShapes Go.Deep Go.RowKit
structure Azn where
 kd : Int
 wh : Int
 sa : Int
 sv : Int
instance : Inhabited Azn := ⟨⟨0, 0, 0, 0⟩⟩
def Ali (x : Azn) : List Value := [.int .u8 x.kd, .int .u8 x.wh, .int .u64 x.sa, .int .u64 x.sv]
structure Apx (x : Azn) : Prop where
 kd0 : 0 ≤ x.kd
 kd1 : x.kd ≤ 255
 wh0 : 0 ≤ x.wh
 wh1 : x.wh ≤ 255
 sa0 : 0 ≤ x.sa
 sa1 : x.sa ≤ 18446744073709551615
 sv0 : 0 ≤ x.sv
 sv1 : x.sv ≤ 18446744073709551615
section
variable {H : Type} {enc : TypeId × Value → H} {w : World} {base : Nat} {spare : Nat → Bool} {held : Bool}
theorem Aih : Tryz.prog.cellsOf 42 = 4 := by kernel_rfl
theorem Alj {fuel : Nat} {cs : List Value} {x : DataW H × List MemPlace} (h : DataW.trod enc Tryz.prog w base spare held fuel 42 cs = some x) : ∃ p : Azn, Apx p ∧ Ali p = cs := by
 obtain ⟨xs, n, _, _, hlen, hxl, hf⟩ := DataW.trod_struct Tryz.underlying42 h
 rw [Aih] at hlen
 match cs, hlen with
 | [c0, c1, c2, c3], _ =>
   have hx : xs.length = 3 := hxl
   have f0 := hf 0 ⟨_, 5, 0, _, _, _, _⟩ rfl
   have f1 := hf 1 ⟨_, 5, 1, _, _, _, _⟩ rfl
   have f2 := hf 2 ⟨_, 40, 2, _, _, _, _⟩ rfl
   dsimp only at f0 f1 f2
   rw [Al2] at f0 f1
   rw [Aet, List.getElem?_eq_getElem (by omega)] at f2
   obtain ⟨z0, e0, w0⟩ := Abc Tryz.underlying5 f0 (by omega)
   obtain ⟨z1, e1, w1⟩ := Abc Tryz.underlying5 f1 (by omega)
   obtain ⟨⟨sa, sv⟩, hs, e4⟩ := Afv f2
   unfold Azt at e4
   simp at e0 e1 e4
   obtain ⟨q4, q4'⟩ := e4
   subst e0 e1 q4 q4'
   have h1 := hs.1.2
   have h2 := hs.2.2
   dsimp only at h1 h2
   exact ⟨⟨z0, z1, sa, sv⟩, ⟨(Aoc w0).1, (Aoc w0).2, (Aoc w1).1, (Aoc w1).2, hs.1.1, by show sa ≤ 18446744073709551615; omega, hs.2.1, by show sv ≤ 18446744073709551615; omega⟩, rfl⟩
theorem open_tacts {v : Value} {d : DataW H} {p : List MemPlace} {r : Reach} {b0 : Nat} (h : DataW.Trod enc Tryz.prog w base spare held 29 v d p) (ho : Value.okWide Tryz.prog w r b0 29 v) :
 ∃ l : List Azn, (∀ q ∈ l, Apx q) ∧ Arr w v l.length 4 (Aa2 Ali l) := by
 obtain ⟨fuel, hf⟩ := h
 rw [Aja Tryz.underlying29 ho] at hf
 obtain ⟨v', l, he, hg, hA⟩ := Ado (α := Azn) (f := Ali) (good := Apx) Tryz.underlying29 Aih (by omega) (fun _ => rfl) Alj hf
 cases he
 exact ⟨l, hg, hA⟩
end
end
end Go.Proofs.YthbodknlhkapdaaGreat
