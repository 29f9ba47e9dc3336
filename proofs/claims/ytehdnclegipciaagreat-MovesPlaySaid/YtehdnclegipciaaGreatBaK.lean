/- Parts of the walk. -/
import Derived.Test.YtehdnclegipciaaGreatBaB
import Derived.Test.YtehdnclegipciaaGreatBaI
import Derived.Below
import Derived.ChangeOld
import Derived.Deep.Slices
import Derived.OpenShut
import Derived.ProofKit
import Derived.ShutString
import Derived.Test.YtehdnclegipciaaGreatRows
import Derived.WalkKit
namespace Go.Proofs.YtehdnclegipciaaGreat
set_option linter.unusedVariables false
set_option linter.unusedSimpArgs false
set_option maxHeartbeats 4000000
set_option maxRecDepth 100000
section
section
open Go.ChangeShapes Go.WideShapes Go.Deep Go.RowKit
section
variable {H : Type} {enc : TypeId × Value → H} {P : Program} {w : World} {base : Nat} {spare : Nat → Bool} {held : Bool}
theorem Aku {a : Addr} {u : Value} (h : w.cell? a = some u) : a.block < w.heap.size := by
 unfold World.cell? at h
 split at h
 · rename_i he; exact (Array.getElem?_eq_some_iff.1 he).1
 · cases h
theorem Aej {a : Addr} {u : Value} (h : w.cell? a = some u) : a.spot = none := by
 unfold World.cell? at h
 split at h
 · split at h
   · cases h
   · rename_i hs; simpa using hs
 · cases h
theorem Awc {a : Addr} {u : Value} {n : Nat} (h : w.cell? (a.add n) = some u) (hs : a.spot = none) : w.cell? ⟨a.block, a.off + n, none⟩ = some u := by
 unfold Addr.add at h
 split at h
 · rename_i hn; subst hn; rw [Nat.add_zero, ← hs]; exact h
 · exact h
theorem Ajt {t e : TypeId} {size fuel : Nat} {cs : List Value} {x : DataW H × List MemPlace} (ht : P.underlying t = some (.slice e)) (hC : P.cellsOf e = size) (hsz : 0 < size)
 (h : DataW.trod enc P w base spare held fuel t cs = some x) :
 ∃ ao n c, cs = [.slice ao n c] ∧ n ≤ c ∧ c ≤ maxLen ∧ ∀ i, i < n → ∃ R : List Value, R.length = size ∧ (∃ fuel' d, DataW.trod enc P w base spare held fuel' e R = some d) ∧
  ∀ j u, R[j]? = some u → ∃ b o, ao = some ⟨b, o, none⟩ ∧ b < w.heap.size ∧ w.cell? ⟨b, o + (i * size + j), none⟩ = some u := by
 rcases open_slice ht h with ⟨rfl, -⟩ | ⟨a, len, cap, m, n, D, Pl, rfl, hb, hl, hm, hmm, -, hi⟩
 · exact ⟨none, 0, 0, rfl, Nat.le_refl _, by unfold maxLen; omega, fun i hi => absurd hi (by omega)⟩
 · refine ⟨some a, len, cap, rfl, hl, hm, fun i hil => ?_⟩
   have hlm : len ≤ m := by rw [hmm]; split <;> omega
   obtain ⟨R, hR, hT⟩ := hi i (by omega)
   rw [hC] at hR
   obtain ⟨_, hlen, hat⟩ := World.cells?_some hR
   refine ⟨R, hlen, ⟨_, _, hT⟩, fun j u hu => ?_⟩
   have hj : j < size := by rw [← hlen]; exact (List.getElem?_eq_some_iff.1 hu).1
   have hc := (hat j hj).trans hu
   have hs : a.spot = none := by
    by_cases h0 : i * size = 0 ∧ j = 0
    · obtain ⟨h0, rfl⟩ := h0
      rw [h0] at hc
      exact Aej hc
    · have h00 := (hat 0 hsz).trans (List.getElem?_eq_getElem (by omega))
      have h1 := Aej h00
      by_cases hz : i = 0
      · subst hz
        rw [Nat.zero_mul] at h1
        exact h1
      · obtain ⟨R0, hR0, hT0⟩ := hi 0 (by omega)
        rw [hC] at hR0
        obtain ⟨_, hlen0, hat0⟩ := World.cells?_some hR0
        have h2 := Aej ((hat0 0 hsz).trans (List.getElem?_eq_getElem (by omega)))
        rw [Nat.zero_mul] at h2
        exact h2
   have hc2 : w.cell? (a.add (i * size + j)) = some u := by
    rw [show a.add (i * size + j) = (a.add (i * size)).add j by first | exact Go.Deep.add_add _ _ _ | exact (Go.Deep.add_add _ _ _).symm]
    exact hc
   have ha : a = ⟨a.block, a.off, none⟩ := by cases a; simp at hs; subst hs; rfl
   exact ⟨a.block, a.off, congrArg some ha, Aku (a := ⟨a.block, a.off + (i * size + j), none⟩) (Awc hc2 hs), Awc hc2 hs⟩
theorem Amh {α : Type} [Inhabited α] {f : α → List Value} {good : α → Prop} {ao : Option Addr} {n c size : Nat} (hsz : 0 < size) (hf : ∀ a, (f a).length = size) (hn : n ≤ c) (hc : c ≤ maxLen)
 (h : ∀ i, i < n → ∃ a : α, good a ∧ ∀ j u, (f a)[j]? = some u → ∃ b o, ao = some ⟨b, o, none⟩ ∧ b < w.heap.size ∧ w.cell? ⟨b, o + (i * size + j), none⟩ = some u) :
 ∃ l : List α, l.length = n ∧ (∀ a ∈ l, good a) ∧ Arr w (.slice ao n c) n size (Aaw f l) := by
 obtain ⟨g, hg⟩ := choose_lt h
 refine ⟨(List.range n).map g, by simp, fun a ha => ?_, by rw [Afs hf]; simp, ao, c, rfl, hn, hc, fun j u hu => ?_⟩
 · obtain ⟨i, hi, rfl⟩ := List.mem_map.1 ha
   exact (hg i (by simpa using hi)).1
 · have hj : j < n * size := by
    have := (List.getElem?_eq_some_iff.1 hu).1
    rw [Afs hf] at this
    simpa using this
   have hi : j / size < n := Nat.div_lt_of_lt_mul (by rw [Nat.mul_comm]; exact hj)
   have hr : j % size < size := Nat.mod_lt _ hsz
   have he : j = j / size * size + j % size := by rw [Nat.mul_comm]; exact (Nat.div_add_mod j size).symm
   rw [he, Aa0 hf _ _ _ (by simpa using hi) hr] at hu
   obtain ⟨b, o, h1, h2, h3⟩ := (hg _ hi).2 (j % size) u (by simpa using hu)
   exact ⟨b, o, h1, h2, by rw [he]; exact h3⟩
theorem Aiy {t e : TypeId} {v : Value} {r : Reach} {b0 : Nat} (ht : P.underlying t = some (.slice e)) (h : Value.okWide P w r b0 t v) : v.cells = #[v] := by
 simp only [Value.okWide, ht, Cell.okWide] at h
 cases v <;> simp_all [Cell.ok, Value.cells]
theorem Adt {k : IntKind} {T n i : Nat} {xs : List (DataW H × List MemPlace)} {l : List Value} (ht : P.underlying T = some (.int k)) (h : DataW.trod enc P w base spare held n T l = xs[i]?) (hi : i < xs.length) : ∃ z, l = [.int k z] ∧ (Lit.int k z).wf = true := by
 rw [List.getElem?_eq_getElem hi] at h
 obtain ⟨z, h1, _, h2⟩ := DataW.trod_int ht h
 exact ⟨z, h1, h2⟩
theorem Awb {z : Int} (h : (Lit.int .i64 z).wf = true) : -9223372036854775808 ≤ z ∧ z ≤ 9223372036854775807 := by
 unfold Lit.wf at h
 obtain ⟨h1, h2⟩ := Bool.and_eq_true_iff.1 h
 exact ⟨of_decide_eq_true h1, of_decide_eq_true h2⟩
theorem Avk {z : Int} (h : (Lit.int .u8 z).wf = true) : 0 ≤ z ∧ z ≤ 255 := by
 unfold Lit.wf at h
 obtain ⟨h1, h2⟩ := Bool.and_eq_true_iff.1 h
 exact ⟨of_decide_eq_true h1, of_decide_eq_true h2⟩
end
end
section
open Go.ChangeShapes Go.WideShapes Go.Deep Go.RowKit
instance : Inhabited It := ⟨⟨⟨#[]⟩, ⟨#[]⟩, 0, 0, 0, 0⟩⟩
theorem Apa {z : Int} (h : (Lit.int .u64 z).wf = true) : 0 ≤ z ∧ z ≤ 18446744073709551615 := by
 unfold Lit.wf at h
 obtain ⟨h1, h2⟩ := Bool.and_eq_true_iff.1 h
 exact ⟨of_decide_eq_true h1, of_decide_eq_true h2⟩
def Bcf (p : Int × Int × Int) : Prop := (0 ≤ p.1 ∧ p.1 < 256) ∧ (0 ≤ p.2.1 ∧ p.2.1 < 256) ∧ (0 ≤ p.2.2 ∧ p.2.2 < 256)
def Bce (p : Int × Int) : Prop := (0 ≤ p.1 ∧ p.1 < 18446744073709551616) ∧ (0 ≤ p.2 ∧ p.2 < 18446744073709551616)
structure Bax (F : Fst) : Prop where
 pub : ∀ p ∈ F.pu, Bcf p
 stb : ∀ p ∈ F.st, Bce p
 ti0 : -9223372036854775808 ≤ F.ti
 ti1 : F.ti ≤ 9223372036854775807
structure Ant (w : World) (v : Value) (F : Fst) : Prop where
 ex : ∃ vi vp vs, v = Aw8 F vi vp vs ∧ Arr w vi F.it.length 6 (Aaw itc F.it) ∧ Arr w vp F.pu.length 3 (Aaw Avt F.pu) ∧ Arr w vs F.st.length 2 (Aaw Atr F.st)
section
variable {H : Type} {enc : TypeId × Value → H} {w : World} {base : Nat} {spare : Nat → Bool} {held : Bool}
theorem Apz : Tryz.prog.cellsOf 3 = 1 := by kernel_rfl
theorem Bb8 : Tryz.prog.cellsOf 4 = 1 := by kernel_rfl
theorem Ary : Tryz.prog.cellsOf 5 = 1 := by kernel_rfl
theorem Aji : Tryz.prog.cellsOf 32 = 1 := by kernel_rfl
theorem Bca : Tryz.prog.cellsOf 120 = 1 := by kernel_rfl
theorem Am8 : Tryz.prog.cellsOf 42 = 1 := by kernel_rfl
theorem Bcb : Tryz.prog.cellsOf 9 = 1 := by kernel_rfl
theorem Bbz : Tryz.prog.cellsOf 122 = 6 := by kernel_rfl
theorem Bb1 : Tryz.prog.cellsOf 175 = 3 := by kernel_rfl
theorem Agy : Tryz.prog.cellsOf 89 = 2 := by kernel_rfl
theorem Bb0 : Tryz.prog.cellsOf 37 = 5 := by kernel_rfl
theorem Bb4 : Tryz.prog.cellsOf 81 = 10 := by kernel_rfl
theorem Bcc : Tryz.prog.cellsOf 77 = 1 := by kernel_rfl
theorem Bb7 : Tryz.prog.cellsOf 78 = 1 := by kernel_rfl
theorem Bb2 : Tryz.prog.cellsOf 79 = 1 := by kernel_rfl
theorem Bb9 {T n i : Nat} {xs : List (DataW H × List MemPlace)} {l : List Value} (ht : Tryz.prog.underlying T = some .string) (h : DataW.trod enc Tryz.prog w base spare held n T l = xs[i]?) (hi : i < xs.length) : ∃ z, l = [.string z] := by
 rw [List.getElem?_eq_getElem hi] at h
 obtain ⟨z, h1, _, h2⟩ := DataW.trod_string ht h
 exact ⟨z, h1⟩
theorem Bcd {T n i : Nat} {xs : List (DataW H × List MemPlace)} {l : List Value} (ht : Tryz.prog.underlying T = some .bool) (h : DataW.trod enc Tryz.prog w base spare held n T l = xs[i]?) (hi : i < xs.length) : ∃ z, l = [.bool z] := by
 rw [List.getElem?_eq_getElem hi] at h
 obtain ⟨z, h1, _⟩ := DataW.trod_bool ht h
 exact ⟨z, h1⟩
theorem Bb3 {fuel : Nat} {cs : List Value} {x : DataW H × List MemPlace} (h : DataW.trod enc Tryz.prog w base spare held fuel 122 cs = some x) : ∃ p : It, True ∧ itc p = cs := by
 obtain ⟨xs, n, _, _, hlen, hxl, hf⟩ := DataW.trod_struct Tryz.underlying122 h
 rw [Bbz] at hlen
 match cs, hlen with
 | [c0, c1, c2, c3, c4, c5], _ =>
   have hx : xs.length = 6 := hxl
   have f0 := hf 0 ⟨_, 9, 0, _, _, _, _⟩ rfl
   have f1 := hf 1 ⟨_, 9, 1, _, _, _, _⟩ rfl
   have f2 := hf 2 ⟨_, 120, 2, _, _, _, _⟩ rfl
   have f3 := hf 3 ⟨_, 32, 3, _, _, _, _⟩ rfl
   have f4 := hf 4 ⟨_, 3, 4, _, _, _, _⟩ rfl
   have f5 := hf 5 ⟨_, 3, 5, _, _, _, _⟩ rfl
   dsimp only at f0 f1 f2 f3 f4 f5
   rw [Bcb] at f0 f1
   rw [Bca] at f2
   rw [Aji] at f3
   rw [Apz] at f4 f5
   obtain ⟨z0, e0⟩ := Bb9 Tryz.underlying9 f0 (by omega)
   obtain ⟨z1, e1⟩ := Bb9 Tryz.underlying9 f1 (by omega)
   obtain ⟨z2, e2, w2⟩ := Adt Tryz.underlying120 f2 (by omega)
   obtain ⟨z3, e3, w3⟩ := Adt Tryz.underlying32 f3 (by omega)
   obtain ⟨z4, e4, w4⟩ := Adt Tryz.underlying3 f4 (by omega)
   obtain ⟨z5, e5, w5⟩ := Adt Tryz.underlying3 f5 (by omega)
   simp at e0 e1 e2 e3 e4 e5
   subst e0 e1 e2 e3 e4 e5
   exact ⟨⟨z0, z1, z2, z3, z4, z5⟩, trivial, rfl⟩
theorem Bb6 {fuel : Nat} {cs : List Value} {x : DataW H × List MemPlace} (h : DataW.trod enc Tryz.prog w base spare held fuel 175 cs = some x) : ∃ p : Int × Int × Int, Bcf p ∧ Avt p = cs := by
 obtain ⟨xs, n, _, _, hlen, hxl, hf⟩ := DataW.trod_struct Tryz.underlying175 h
 rw [Bb1] at hlen
 match cs, hlen with
 | [c0, c1, c2], _ =>
   have hx : xs.length = 3 := hxl
   have f0 := hf 0 ⟨_, 5, 0, _, _, _, _⟩ rfl
   have f1 := hf 1 ⟨_, 5, 1, _, _, _, _⟩ rfl
   have f2 := hf 2 ⟨_, 5, 2, _, _, _, _⟩ rfl
   dsimp only at f0 f1 f2
   rw [Ary] at f0 f1 f2
   obtain ⟨z0, e0, w0⟩ := Adt Tryz.underlying5 f0 (by omega)
   obtain ⟨z1, e1, w1⟩ := Adt Tryz.underlying5 f1 (by omega)
   obtain ⟨z2, e2, w2⟩ := Adt Tryz.underlying5 f2 (by omega)
   simp at e0 e1 e2
   subst e0 e1 e2
   have b0 := Avk w0
   have b1 := Avk w1
   have b2 := Avk w2
   exact ⟨(z0, z1, z2), ⟨⟨b0.1, by show z0 < 256; omega⟩, ⟨b1.1, by show z1 < 256; omega⟩, ⟨b2.1, by show z2 < 256; omega⟩⟩, rfl⟩
theorem Ajs {fuel : Nat} {cs : List Value} {x : DataW H × List MemPlace} (h : DataW.trod enc Tryz.prog w base spare held fuel 89 cs = some x) : ∃ p : Int × Int, Bce p ∧ Atr p = cs := by
 obtain ⟨xs, n, _, _, hlen, hxl, hf⟩ := DataW.trod_struct Tryz.underlying89 h
 rw [Agy] at hlen
 match cs, hlen with
 | [c0, c1], _ =>
   have hx : xs.length = 2 := hxl
   have f0 := hf 0 ⟨_, 42, 0, _, _, _, _⟩ rfl
   have f1 := hf 1 ⟨_, 32, 1, _, _, _, _⟩ rfl
   dsimp only at f0 f1
   rw [Am8] at f0
   rw [Aji] at f1
   obtain ⟨z0, e0, w0⟩ := Adt Tryz.underlying42 f0 (by omega)
   obtain ⟨z1, e1, w1⟩ := Adt Tryz.underlying32 f1 (by omega)
   simp at e0 e1
   subst e0 e1
   have b0 := Apa w0
   have b1 := Apa w1
   exact ⟨(z0, z1), ⟨⟨b0.1, by show z0 < 18446744073709551616; omega⟩, ⟨b1.1, by show z1 < 18446744073709551616; omega⟩⟩, rfl⟩
theorem Bb5 {fuel : Nat} {cs : List Value} {x : DataW H × List MemPlace} (h : DataW.trod enc Tryz.prog w base spare held fuel 37 cs = some x) : ∃ f : Cf, cfL f = cs := by
 obtain ⟨xs, n, _, _, hlen, hxl, hf⟩ := DataW.trod_struct Tryz.underlying37 h
 rw [Bb0] at hlen
 match cs, hlen with
 | [c0, c1, c2, c3, c4], _ =>
   have hx : xs.length = 5 := hxl
   have f0 := hf 0 ⟨_, 3, 0, _, _, _, _⟩ rfl
   have f1 := hf 1 ⟨_, 3, 1, _, _, _, _⟩ rfl
   have f2 := hf 2 ⟨_, 3, 2, _, _, _, _⟩ rfl
   have f3 := hf 3 ⟨_, 3, 3, _, _, _, _⟩ rfl
   have f4 := hf 4 ⟨_, 3, 4, _, _, _, _⟩ rfl
   dsimp only at f0 f1 f2 f3 f4
   rw [Apz] at f0 f1 f2 f3 f4
   obtain ⟨z0, e0, w0⟩ := Adt Tryz.underlying3 f0 (by omega)
   obtain ⟨z1, e1, w1⟩ := Adt Tryz.underlying3 f1 (by omega)
   obtain ⟨z2, e2, w2⟩ := Adt Tryz.underlying3 f2 (by omega)
   obtain ⟨z3, e3, w3⟩ := Adt Tryz.underlying3 f3 (by omega)
   obtain ⟨z4, e4, w4⟩ := Adt Tryz.underlying3 f4 (by omega)
   simp at e0 e1 e2 e3 e4
   subst e0 e1 e2 e3 e4
   exact ⟨⟨z0, z1, z2, z3, z4⟩, rfl⟩
theorem Ak8 {α : Type} [Inhabited α] {T E size fuel : Nat} {f : α → List Value} {good : α → Prop} {cs : List Value} {x : DataW H × List MemPlace} (hT : Tryz.prog.underlying T = some (.slice E)) (hC : Tryz.prog.cellsOf E = size) (hsz : 0 < size) (hfl : ∀ a, (f a).length = size)
 (hE : ∀ {fuel : Nat} {cs : List Value} {x : DataW H × List MemPlace}, DataW.trod enc Tryz.prog w base spare held fuel E cs = some x → ∃ p : α, good p ∧ f p = cs)
 (h : DataW.trod enc Tryz.prog w base spare held fuel T cs = some x) : ∃ (v : Value) (l : List α), cs = [v] ∧ (∀ a ∈ l, good a) ∧ Arr w v l.length size (Aaw f l) := by
 obtain ⟨ao, n, c, he, hn, hc, hi⟩ := Ajt hT hC hsz h
 obtain ⟨l, hl, hg, hA⟩ := Amh (α := α) (size := size) (f := f) (good := good) hsz hfl hn hc (fun i hin => by
  obtain ⟨R, hR, ⟨fuel', d', hT⟩, hx⟩ := hi i hin
  obtain ⟨q, hok, rfl⟩ := hE hT
  exact ⟨q, hok, hx⟩)
 subst hl
 exact ⟨_, l, he, hg, hA⟩
theorem open_first {v : Value} {d : DataW H} {p : List MemPlace} {r : Reach} {b0 : Nat} (h : DataW.Trod enc Tryz.prog w base spare held 81 v d p) (ho : Value.okWide Tryz.prog w r b0 81 v) :
 ∃ F : Fst, Bax F ∧ Ant w v F := by
 obtain ⟨fuel, hf⟩ := h
 simp only [Value.okWide, Tryz.underlying81] at ho
 obtain ⟨ca, rfl, hl, hr⟩ := ho
 rw [Bb4] at hl
 have hf : DataW.trod enc Tryz.prog w base spare held fuel 81 ca.toList = some (d, p) := hf
 obtain ⟨cs, hcs⟩ := exq ca.toList
 have hca : ca = cs.toArray := by rw [hcs]
 have hlc : cs.length = 10 := by rw [hcs]; simpa using hl
 subst hca
 have hf : DataW.trod enc Tryz.prog w base spare held fuel 81 cs = some (d, p) := by simpa using hf
 clear hcs hl hr
 obtain ⟨xs, n, _, _, hlen, hxl, hg⟩ := DataW.trod_struct Tryz.underlying81 hf
 match cs, hlc with
 | [c0, c1, c2, c3, c4, c5, c6, c7, c8, c9], _ =>
   have hx : xs.length = 6 := hxl
   have f0 := hg 0 ⟨_, 37, 0, _, _, _, _⟩ rfl
   have f1 := hg 1 ⟨_, 4, 5, _, _, _, _⟩ rfl
   have f2 := hg 2 ⟨_, 77, 6, _, _, _, _⟩ rfl
   have f3 := hg 3 ⟨_, 78, 7, _, _, _, _⟩ rfl
   have f4 := hg 4 ⟨_, 79, 8, _, _, _, _⟩ rfl
   have f5 := hg 5 ⟨_, 3, 9, _, _, _, _⟩ rfl
   dsimp only at f0 f1 f2 f3 f4 f5
   rw [Bb0, List.getElem?_eq_getElem (by omega)] at f0
   rw [Bb8] at f1
   rw [Bcc, List.getElem?_eq_getElem (by omega)] at f2
   rw [Bb7, List.getElem?_eq_getElem (by omega)] at f3
   rw [Bb2, List.getElem?_eq_getElem (by omega)] at f4
   rw [Apz] at f5
   obtain ⟨cf, e0⟩ := Bb5 f0
   obtain ⟨gr, e1⟩ := Bcd Tryz.underlying4 f1 (by omega)
   obtain ⟨vi, it, e2, g2, a2⟩ := Ak8 (α := It) (f := itc) (good := fun _ => True) Tryz.underlying77 Bbz (by omega) Agf Bb3 f2
   obtain ⟨vp, pu, e3, g3, a3⟩ := Ak8 (α := Int × Int × Int) (f := Avt) (good := Bcf) Tryz.underlying78 Bb1 (by omega) (fun _ => rfl) Bb6 f3
   obtain ⟨vs, st, e4, g4, a4⟩ := Ak8 (α := Int × Int) (f := Atr) (good := Bce) Tryz.underlying79 Agy (by omega) (fun _ => rfl) Ajs f4
   obtain ⟨ti, e5, w5⟩ := Adt Tryz.underlying3 f5 (by omega)
   unfold cfL at e0
   simp at e0 e1 e2 e3 e4 e5
   obtain ⟨q0, q1, q2, q3, q4⟩ := e0
   subst q0 q1 q2 q3 q4 e1 e2 e3 e4 e5
   exact ⟨⟨cf, gr, it, pu, st, ti⟩, ⟨g3, g4, (Awb w5).1, (Awb w5).2⟩, ⟨_, _, _, rfl, a2, a3, a4⟩⟩
end
end
section
open Go.RowKit
def Ato (w : World) (F : Fst) (e : Ending) (w' : World) : Prop :=
 ∃ b : Bool, e = .returned (.bool b) ∧ Below w.heap.size w w' ∧ (b = false → F.it.length ≤ 40 ∧ F.pu.length ≤ 60 ∧ F.st.length ≤ 60 ∧ ∀ x ∈ F.it, x.key.size ≤ 400)
theorem Ant.into {w : World} {v : Value} {F : Fst} (h : Ant w v F) (g : Bax F) (b : F.it.length ≤ 40 ∧ F.pu.length ≤ 60 ∧ F.st.length ≤ 60 ∧ ∀ x ∈ F.it, x.key.size ≤ 400) : ∃ vi vp vs, v = Aw8 F vi vp vs ∧ Baw w F vi vp vs := by
 obtain ⟨vi, vp, vs, rfl, h1, h2, h3⟩ := h.ex
 exact ⟨vi, vp, vs, rfl, ⟨h1, h2, h3, b.1, b.2.1, b.2.2.1, b.2.2.2, g.pub, g.stb, g.ti0, g.ti1⟩⟩
theorem Ant.below {w w' : World} {v : Value} {F : Fst} (h : Ant w v F) (hb : Below w.heap.size w w') : Ant w' v F := by
 obtain ⟨vi, vp, vs, rfl, h1, h2, h3⟩ := h.ex
 exact ⟨vi, vp, vs, rfl, h1.below hb, h2.below hb, h3.below hb⟩
theorem Ayk {F : Fst} {v : Value} {w : World} (h : Ant w v F) : Calls Tryz.prog 35 #[v] w (Ato w F) := by
 obtain ⟨⟨fb, fg, ft, fq, fy⟩, gr, it, pu, st, ti⟩ := F
 obtain ⟨vi, vp, vs, rfl, h1, h2, h3⟩ := h.ex
 unfold Aw8
 dsimp only at h1 h2 h3 ⊢
 obtain ⟨ai, ci, rfl, hci, hmi⟩ := h1.shape
 obtain ⟨ap, cp, rfl, hcp, hmp⟩ := h2.shape
 obtain ⟨as', cs, rfl, hcs, hms⟩ := h3.shape
 have HA := hQd h1
 clear h h1 h2 h3
 have hmm : ci ≤ 9223372036854775807 := by unfold maxLen at hmi; omega
 by_cases d1 : 40 < it.length
 · have t1 : decide ((40 : Int) < (it.length : Int)) = true := by simp; omega
   go_enter Tryz.func35, Tryz.ntmps35
   go_wp2_with fail
   go_ret
   exact ⟨true, rfl, bal _ _, fun h => by cases h⟩
 · have t1 : decide ((40 : Int) < (it.length : Int)) = false := by simp; omega
   by_cases d2 : 60 < pu.length
   · have t2 : decide ((60 : Int) < (pu.length : Int)) = true := by simp; omega
     go_enter Tryz.func35, Tryz.ntmps35
     go_wp2_with fail
     go_ret
     exact ⟨true, rfl, bal _ _, fun h => by cases h⟩
   · have t2 : decide ((60 : Int) < (pu.length : Int)) = false := by simp; omega
     by_cases d3 : 60 < st.length
     · have t3 : decide ((60 : Int) < (st.length : Int)) = true := by simp; omega
       go_enter Tryz.func35, Tryz.ntmps35
       go_wp2_with fail
       go_ret
       exact ⟨true, rfl, bal _ _, fun h => by cases h⟩
     · have t3 : decide ((60 : Int) < (st.length : Int)) = false := by simp; omega
       go_enter Tryz.func35, Tryz.ntmps35
       go_wp2_with fail
       obtain ⟨W1, hW1⟩ := exq (w.alloc (.cells #[.int .i64 fb, .int .i64 fg, .int .i64 ft, .int .i64 fq, .int .i64 fy, .bool gr, .slice ai it.length ci, .slice ap pu.length cp, .slice as' st.length cs, .int .i64 ti] 81))
       have HB : Hid (Below w.heap.size w W1) := hQd (by rw [hW1]; exact bal _ _)
       have y6 : W1.cell? ⟨w.heap.size, 6, none⟩ = some (.slice ai it.length ci) := by rw [hW1]; simp
       rw [← hW1]
       clear hW1 t1 t2 t3
       go_loopw [3] (fun i wr => ∃ k : Nat, k ≤ it.length ∧ i = .int .i64 k ∧ wr = W1 ∧ Hid (∀ j, (hj : j < it.length) → j < k → it[j].key.size ≤ 400)) (fun i _ => it.length - (intOf i).toNat)
       case atStart => exact ⟨0, Nat.zero_le _, rfl, rfl, hQd fun j _ h => by omega⟩
       case round =>
        obtain ⟨k, hk, rfl, rfl, hno⟩ := hrel
        by_cases hk2 : k < it.length
        · obtain ⟨b', o', c', he, -, -, hlt, hx⟩ := HA.out.open (by omega) (by omega)
          cases he
          obtain ⟨x, hxe⟩ := exq (it[k])
          have hr : ∀ j, j < 6 → (Aaw itc it)[k * 6 + j]? = (itc x)[j]? := fun j hj => by rw [hxe]; exact Aa0 Agf it k j hk2 hj
          have v0 : wr.cell? ⟨b', o' + k * 6, none⟩ = some (.string x.key) := (HB.out.cell (p := ⟨b', o' + k * 6, none⟩) hlt).trans (hx _ _ (hr 0 (by omega)))
          have v1 : wr.cell? ⟨b', o' + k * 6 + 1, none⟩ = some (.string x.val) := (HB.out.cell (p := ⟨b', o' + k * 6 + 1, none⟩) hlt).trans (hx _ _ (hr 1 (by omega)))
          have HX := hQd hxe
          clear hx hr hxe
          by_cases q1 : 400 < x.key.size
          · have s1 : decide ((400 : Int) < (x.key.size : Int)) = true := by simp; omega
            go_wp2_with fail
            go_ret
            exact ⟨true, rfl, HB.out, fun h => by cases h⟩
          · have s1 : decide ((400 : Int) < (x.key.size : Int)) = false := by simp; omega
            by_cases q2 : 2000 < x.val.size
            · have s2 : decide ((2000 : Int) < (x.val.size : Int)) = true := by simp; omega
              go_wp2_with fail
              go_ret
              exact ⟨true, rfl, HB.out, fun h => by cases h⟩
            · have s2 : decide ((2000 : Int) < (x.val.size : Int)) = false := by simp; omega
              go_wp2_with fail
              go_roundw
              case rel =>
               refine ⟨k + 1, by omega, by go_num, (by first | trivial | rfl), hQd fun j hj hjk => ?_⟩
               by_cases e : j = k
               · subst e; rw [← HX.out]; omega
               · exact hno.out j hj (by omega)
              case measure => simp [intOf]; omega
        · obtain rfl : k = it.length := by omega
          go_wp2_with fail
          go_ret
          exact ⟨false, rfl, HB.out, fun _ => ⟨by show it.length ≤ 40; omega, by show pu.length ≤ 60; omega, by show st.length ≤ 60; omega, fun x hx => by
           obtain ⟨j, hj, rfl⟩ := List.getElem_of_mem hx
           exact hno.out j hj hj⟩⟩
end
end
section
open Go.ChangeShapes Go.WideShapes Go.Deep Go.RowKit
structure Ayt where
 kd : Int
 wh : Int
 wd : Int
 bk : Int
 sa : Int
 sv : Int
instance : Inhabited Ayt := ⟨⟨0, 0, 0, 0, 0, 0⟩⟩
def Aln (x : Ayt) : List Value := [.int .u8 x.kd, .int .u8 x.wh, .int .u64 x.wd, .int .i64 x.bk, .int .u64 x.sa, .int .u64 x.sv]
structure Apf (x : Ayt) : Prop where
 kd0 : 0 ≤ x.kd
 kd1 : x.kd ≤ 255
 wh0 : 0 ≤ x.wh
 wh1 : x.wh ≤ 255
 wd0 : 0 ≤ x.wd
 wd1 : x.wd ≤ 18446744073709551615
 bk0 : -9223372036854775808 ≤ x.bk
 bk1 : x.bk ≤ 9223372036854775807
 sa0 : 0 ≤ x.sa
 sa1 : x.sa ≤ 18446744073709551615
 sv0 : 0 ≤ x.sv
 sv1 : x.sv ≤ 18446744073709551615
section
variable {H : Type} {enc : TypeId × Value → H} {w : World} {base : Nat} {spare : Nat → Bool} {held : Bool}
theorem Ah8 : Tryz.prog.cellsOf 91 = 6 := by kernel_rfl
theorem Alo {fuel : Nat} {cs : List Value} {x : DataW H × List MemPlace} (h : DataW.trod enc Tryz.prog w base spare held fuel 91 cs = some x) : ∃ p : Ayt, Apf p ∧ Aln p = cs := by
 obtain ⟨xs, n, _, _, hlen, hxl, hf⟩ := DataW.trod_struct Tryz.underlying91 h
 rw [Ah8] at hlen
 match cs, hlen with
 | [c0, c1, c2, c3, c4, c5], _ =>
   have hx : xs.length = 5 := hxl
   have f0 := hf 0 ⟨_, 5, 0, _, _, _, _⟩ rfl
   have f1 := hf 1 ⟨_, 5, 1, _, _, _, _⟩ rfl
   have f2 := hf 2 ⟨_, 32, 2, _, _, _, _⟩ rfl
   have f3 := hf 3 ⟨_, 3, 3, _, _, _, _⟩ rfl
   have f4 := hf 4 ⟨_, 89, 4, _, _, _, _⟩ rfl
   dsimp only at f0 f1 f2 f3 f4
   rw [Ary] at f0 f1
   rw [Aji] at f2
   rw [Apz] at f3
   rw [Agy, List.getElem?_eq_getElem (by omega)] at f4
   obtain ⟨z0, e0, w0⟩ := Adt Tryz.underlying5 f0 (by omega)
   obtain ⟨z1, e1, w1⟩ := Adt Tryz.underlying5 f1 (by omega)
   obtain ⟨z2, e2, w2⟩ := Adt Tryz.underlying32 f2 (by omega)
   obtain ⟨z3, e3, w3⟩ := Adt Tryz.underlying3 f3 (by omega)
   obtain ⟨⟨sa, sv⟩, hs, e4⟩ := Ajs f4
   unfold Atr at e4
   simp at e0 e1 e2 e3 e4
   obtain ⟨q4, q4'⟩ := e4
   subst e0 e1 e2 e3 q4 q4'
   have h1 := hs.1.2
   have h2 := hs.2.2
   dsimp only at h1 h2
   exact ⟨⟨z0, z1, z2, z3, sa, sv⟩, ⟨(Avk w0).1, (Avk w0).2, (Avk w1).1, (Avk w1).2, (Apa w2).1, (Apa w2).2, (Awb w3).1, (Awb w3).2, hs.1.1, by show sa ≤ 18446744073709551615; omega, hs.2.1, by show sv ≤ 18446744073709551615; omega⟩, rfl⟩
theorem open_macts {v : Value} {d : DataW H} {p : List MemPlace} {r : Reach} {b0 : Nat} (h : DataW.Trod enc Tryz.prog w base spare held 82 v d p) (ho : Value.okWide Tryz.prog w r b0 82 v) :
 ∃ l : List Ayt, (∀ q ∈ l, Apf q) ∧ Arr w v l.length 6 (Aaw Aln l) := by
 obtain ⟨fuel, hf⟩ := h
 rw [Aiy Tryz.underlying82 ho] at hf
 obtain ⟨v', l, he, hg, hA⟩ := Ak8 (α := Ayt) (f := Aln) (good := Apf) Tryz.underlying82 Ah8 (by omega) (fun _ => rfl) Alo hf
 cases he
 exact ⟨l, hg, hA⟩
end
end
end Go.Proofs.YtehdnclegipciaaGreat
