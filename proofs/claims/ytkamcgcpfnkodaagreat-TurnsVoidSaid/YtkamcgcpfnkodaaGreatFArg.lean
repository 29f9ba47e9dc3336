/- An argument that is a pair's First, opened. -/
import Derived.Test.YtkamcgcpfnkodaaGreatArg
import Derived.Test.YtkamcgcpfnkodaaGreatBg
import Derived.Test.YtkamcgcpfnkodaaGreatFrame
import Derived.Test.YtkamcgcpfnkodaaGreatRows
namespace Go.Proofs.YtkamcgcpfnkodaaGreat
set_option linter.unusedSimpArgs false
open Go.ChangeShapes Go.WideShapes Go.Deep Go.RowKit
set_option linter.unusedVariables false

instance : Inhabited It := ⟨⟨⟨#[]⟩, ⟨#[]⟩, 0, 0, 0, 0⟩⟩
theorem bd_u64 {z : Int} (h : (Lit.int .u64 z).wf = true) : 0 ≤ z ∧ z ≤ 18446744073709551615 := by
  unfold Lit.wf at h
  obtain ⟨h1, h2⟩ := Bool.and_eq_true_iff.1 h
  exact ⟨of_decide_eq_true h1, of_decide_eq_true h2⟩
def PuOk (p : Int × Int × Int) : Prop := (0 ≤ p.1 ∧ p.1 < 256) ∧ (0 ≤ p.2.1 ∧ p.2.1 < 256) ∧ (0 ≤ p.2.2 ∧ p.2.2 < 256)
def StOk (p : Int × Int) : Prop := (0 ≤ p.1 ∧ p.1 < 18446744073709551616) ∧ (0 ≤ p.2 ∧ p.2 < 18446744073709551616)
/-- What a First of an argument is. -/
structure FstBd (F : Fst) : Prop where
  pub : ∀ p ∈ F.pu, PuOk p
  stb : ∀ p ∈ F.st, StOk p
  ti0 : -9223372036854775808 ≤ F.ti
  ti1 : F.ti ≤ 9223372036854775807
structure FstAt (w : World) (v : Value) (F : Fst) : Prop where
  ex : ∃ vi vp vs, v = fstV F vi vp vs ∧ Arr w vi F.it.length 6 (rowOf itc F.it) ∧ Arr w vp F.pu.length 3 (rowOf putc F.pu) ∧ Arr w vs F.st.length 2 (rowOf stoc F.st)
section
variable {H : Type} {enc : TypeId × Value → H} {w : World} {base : Nat} {spare : Nat → Bool} {held : Bool}
theorem fcells_int : Tryz.prog.cellsOf 3 = 1 := by kernel_rfl
theorem fcells_bool : Tryz.prog.cellsOf 4 = 1 := by kernel_rfl
theorem fcells_u8 : Tryz.prog.cellsOf 5 = 1 := by kernel_rfl
theorem fcells_u64 : Tryz.prog.cellsOf 37 = 1 := by kernel_rfl
theorem fcells_u32 : Tryz.prog.cellsOf 76 = 1 := by kernel_rfl
theorem fcells_addr : Tryz.prog.cellsOf 45 = 1 := by kernel_rfl
theorem fcells_str : Tryz.prog.cellsOf 9 = 1 := by kernel_rfl
theorem fcells_item : Tryz.prog.cellsOf 78 = 6 := by kernel_rfl
theorem fcells_put : Tryz.prog.cellsOf 97 = 3 := by kernel_rfl
theorem fcells_store : Tryz.prog.cellsOf 93 = 2 := by kernel_rfl
theorem fcells_conf : Tryz.prog.cellsOf 23 = 5 := by kernel_rfl
theorem fcells_first : Tryz.prog.cellsOf 28 = 10 := by kernel_rfl
theorem fcells_its : Tryz.prog.cellsOf 24 = 1 := by kernel_rfl
theorem fcells_puts : Tryz.prog.cellsOf 25 = 1 := by kernel_rfl
theorem fcells_stores : Tryz.prog.cellsOf 26 = 1 := by kernel_rfl
theorem leaf_str {T n i : Nat} {xs : List (DataW H × List MemPlace)} {l : List Value} (ht : Tryz.prog.underlying T = some .string) (h : DataW.trod enc Tryz.prog w base spare held n T l = xs[i]?) (hi : i < xs.length) : ∃ z, l = [.string z] := by
  rw [List.getElem?_eq_getElem hi] at h
  obtain ⟨z, h1, _, h2⟩ := DataW.trod_string ht h
  exact ⟨z, h1⟩
theorem leaf_bl {T n i : Nat} {xs : List (DataW H × List MemPlace)} {l : List Value} (ht : Tryz.prog.underlying T = some .bool) (h : DataW.trod enc Tryz.prog w base spare held n T l = xs[i]?) (hi : i < xs.length) : ∃ z, l = [.bool z] := by
  rw [List.getElem?_eq_getElem hi] at h
  obtain ⟨z, h1, _⟩ := DataW.trod_bool ht h
  exact ⟨z, h1⟩
set_option maxRecDepth 100000 in
theorem item_of_trod {fuel : Nat} {cs : List Value} {x : DataW H × List MemPlace} (h : DataW.trod enc Tryz.prog w base spare held fuel 78 cs = some x) : ∃ p : It, True ∧ itc p = cs := by
  obtain ⟨xs, n, _, _, hlen, hxl, hf⟩ := DataW.trod_struct Tryz.underlying78 h
  rw [fcells_item] at hlen
  match cs, hlen with
  | [c0, c1, c2, c3, c4, c5], _ =>
    have hx : xs.length = 6 := hxl
    have f0 : DataW.trod enc Tryz.prog w base spare held n 9 (List.take (Tryz.prog.cellsOf 9) (List.drop 0 [c0, c1, c2, c3, c4, c5])) = xs[0]? := hf 0 _ rfl
    have f1 : DataW.trod enc Tryz.prog w base spare held n 9 (List.take (Tryz.prog.cellsOf 9) (List.drop 1 [c0, c1, c2, c3, c4, c5])) = xs[1]? := hf 1 _ rfl
    have f2 : DataW.trod enc Tryz.prog w base spare held n 76 (List.take (Tryz.prog.cellsOf 76) (List.drop 2 [c0, c1, c2, c3, c4, c5])) = xs[2]? := hf 2 _ rfl
    have f3 : DataW.trod enc Tryz.prog w base spare held n 37 (List.take (Tryz.prog.cellsOf 37) (List.drop 3 [c0, c1, c2, c3, c4, c5])) = xs[3]? := hf 3 _ rfl
    have f4 : DataW.trod enc Tryz.prog w base spare held n 3 (List.take (Tryz.prog.cellsOf 3) (List.drop 4 [c0, c1, c2, c3, c4, c5])) = xs[4]? := hf 4 _ rfl
    have f5 : DataW.trod enc Tryz.prog w base spare held n 3 (List.take (Tryz.prog.cellsOf 3) (List.drop 5 [c0, c1, c2, c3, c4, c5])) = xs[5]? := hf 5 _ rfl
    rw [fcells_str] at f0 f1
    rw [fcells_u32] at f2
    rw [fcells_u64] at f3
    rw [fcells_int] at f4 f5
    obtain ⟨z0, e0⟩ := leaf_str Tryz.underlying9 f0 (by omega)
    obtain ⟨z1, e1⟩ := leaf_str Tryz.underlying9 f1 (by omega)
    obtain ⟨z2, e2, w2⟩ := leaf_trod Tryz.underlying76 f2 (by omega)
    obtain ⟨z3, e3, w3⟩ := leaf_trod Tryz.underlying37 f3 (by omega)
    obtain ⟨z4, e4, w4⟩ := leaf_trod Tryz.underlying3 f4 (by omega)
    obtain ⟨z5, e5, w5⟩ := leaf_trod Tryz.underlying3 f5 (by omega)
    simp at e0 e1 e2 e3 e4 e5
    subst e0 e1 e2 e3 e4 e5
    exact ⟨⟨z0, z1, z2, z3, z4, z5⟩, trivial, rfl⟩
set_option maxRecDepth 100000 in
theorem put_of_trod {fuel : Nat} {cs : List Value} {x : DataW H × List MemPlace} (h : DataW.trod enc Tryz.prog w base spare held fuel 97 cs = some x) : ∃ p : Int × Int × Int, PuOk p ∧ putc p = cs := by
  obtain ⟨xs, n, _, _, hlen, hxl, hf⟩ := DataW.trod_struct Tryz.underlying97 h
  rw [fcells_put] at hlen
  match cs, hlen with
  | [c0, c1, c2], _ =>
    have hx : xs.length = 3 := hxl
    have f0 : DataW.trod enc Tryz.prog w base spare held n 5 (List.take (Tryz.prog.cellsOf 5) (List.drop 0 [c0, c1, c2])) = xs[0]? := hf 0 _ rfl
    have f1 : DataW.trod enc Tryz.prog w base spare held n 5 (List.take (Tryz.prog.cellsOf 5) (List.drop 1 [c0, c1, c2])) = xs[1]? := hf 1 _ rfl
    have f2 : DataW.trod enc Tryz.prog w base spare held n 5 (List.take (Tryz.prog.cellsOf 5) (List.drop 2 [c0, c1, c2])) = xs[2]? := hf 2 _ rfl
    rw [fcells_u8] at f0 f1 f2
    obtain ⟨z0, e0, w0⟩ := leaf_trod Tryz.underlying5 f0 (by omega)
    obtain ⟨z1, e1, w1⟩ := leaf_trod Tryz.underlying5 f1 (by omega)
    obtain ⟨z2, e2, w2⟩ := leaf_trod Tryz.underlying5 f2 (by omega)
    simp at e0 e1 e2
    subst e0 e1 e2
    have b0 := bd_u8 w0
    have b1 := bd_u8 w1
    have b2 := bd_u8 w2
    exact ⟨(z0, z1, z2), ⟨⟨b0.1, by show z0 < 256; omega⟩, ⟨b1.1, by show z1 < 256; omega⟩, ⟨b2.1, by show z2 < 256; omega⟩⟩, rfl⟩
set_option maxRecDepth 100000 in
theorem store_of_trod {fuel : Nat} {cs : List Value} {x : DataW H × List MemPlace} (h : DataW.trod enc Tryz.prog w base spare held fuel 93 cs = some x) : ∃ p : Int × Int, StOk p ∧ stoc p = cs := by
  obtain ⟨xs, n, _, _, hlen, hxl, hf⟩ := DataW.trod_struct Tryz.underlying93 h
  rw [fcells_store] at hlen
  match cs, hlen with
  | [c0, c1], _ =>
    have hx : xs.length = 2 := hxl
    have f0 : DataW.trod enc Tryz.prog w base spare held n 45 (List.take (Tryz.prog.cellsOf 45) (List.drop 0 [c0, c1])) = xs[0]? := hf 0 _ rfl
    have f1 : DataW.trod enc Tryz.prog w base spare held n 37 (List.take (Tryz.prog.cellsOf 37) (List.drop 1 [c0, c1])) = xs[1]? := hf 1 _ rfl
    rw [fcells_addr] at f0
    rw [fcells_u64] at f1
    obtain ⟨z0, e0, w0⟩ := leaf_trod Tryz.underlying45 f0 (by omega)
    obtain ⟨z1, e1, w1⟩ := leaf_trod Tryz.underlying37 f1 (by omega)
    simp at e0 e1
    subst e0 e1
    have b0 := bd_u64 w0
    have b1 := bd_u64 w1
    exact ⟨(z0, z1), ⟨⟨b0.1, by show z0 < 18446744073709551616; omega⟩, ⟨b1.1, by show z1 < 18446744073709551616; omega⟩⟩, rfl⟩
set_option maxRecDepth 100000 in
theorem conf_of_trod {fuel : Nat} {cs : List Value} {x : DataW H × List MemPlace} (h : DataW.trod enc Tryz.prog w base spare held fuel 23 cs = some x) : ∃ f : Cf, cfL f = cs := by
  obtain ⟨xs, n, _, _, hlen, hxl, hf⟩ := DataW.trod_struct Tryz.underlying23 h
  rw [fcells_conf] at hlen
  match cs, hlen with
  | [c0, c1, c2, c3, c4], _ =>
    have hx : xs.length = 5 := hxl
    have f0 : DataW.trod enc Tryz.prog w base spare held n 3 (List.take (Tryz.prog.cellsOf 3) (List.drop 0 [c0, c1, c2, c3, c4])) = xs[0]? := hf 0 _ rfl
    have f1 : DataW.trod enc Tryz.prog w base spare held n 3 (List.take (Tryz.prog.cellsOf 3) (List.drop 1 [c0, c1, c2, c3, c4])) = xs[1]? := hf 1 _ rfl
    have f2 : DataW.trod enc Tryz.prog w base spare held n 3 (List.take (Tryz.prog.cellsOf 3) (List.drop 2 [c0, c1, c2, c3, c4])) = xs[2]? := hf 2 _ rfl
    have f3 : DataW.trod enc Tryz.prog w base spare held n 3 (List.take (Tryz.prog.cellsOf 3) (List.drop 3 [c0, c1, c2, c3, c4])) = xs[3]? := hf 3 _ rfl
    have f4 : DataW.trod enc Tryz.prog w base spare held n 3 (List.take (Tryz.prog.cellsOf 3) (List.drop 4 [c0, c1, c2, c3, c4])) = xs[4]? := hf 4 _ rfl
    rw [fcells_int] at f0 f1 f2 f3 f4
    obtain ⟨z0, e0, w0⟩ := leaf_trod Tryz.underlying3 f0 (by omega)
    obtain ⟨z1, e1, w1⟩ := leaf_trod Tryz.underlying3 f1 (by omega)
    obtain ⟨z2, e2, w2⟩ := leaf_trod Tryz.underlying3 f2 (by omega)
    obtain ⟨z3, e3, w3⟩ := leaf_trod Tryz.underlying3 f3 (by omega)
    obtain ⟨z4, e4, w4⟩ := leaf_trod Tryz.underlying3 f4 (by omega)
    simp at e0 e1 e2 e3 e4
    subst e0 e1 e2 e3 e4
    exact ⟨⟨z0, z1, z2, z3, z4⟩, rfl⟩
/-- A slice of structs behind a trodden cell. -/
theorem rows_of_trod {α : Type} [Inhabited α] {T E size fuel : Nat} {f : α → List Value} {good : α → Prop} {cs : List Value} {x : DataW H × List MemPlace} (hT : Tryz.prog.underlying T = some (.slice E)) (hC : Tryz.prog.cellsOf E = size) (hsz : 0 < size) (hfl : ∀ a, (f a).length = size)
    (hE : ∀ {fuel : Nat} {cs : List Value} {x : DataW H × List MemPlace}, DataW.trod enc Tryz.prog w base spare held fuel E cs = some x → ∃ p : α, good p ∧ f p = cs)
    (h : DataW.trod enc Tryz.prog w base spare held fuel T cs = some x) : ∃ (v : Value) (l : List α), cs = [v] ∧ (∀ a ∈ l, good a) ∧ Arr w v l.length size (rowOf f l) := by
  obtain ⟨ao, n, c, he, hn, hc, hi⟩ := slice_of_trod hT hC hsz h
  obtain ⟨l, hl, hg, hA⟩ := arr_of_slice (α := α) (size := size) (f := f) (good := good) hsz hfl hn hc (fun i hin => by
    obtain ⟨R, hR, ⟨fuel', d', hT⟩, hx⟩ := hi i hin
    obtain ⟨q, hok, rfl⟩ := hE hT
    exact ⟨q, hok, hx⟩)
  subst hl
  exact ⟨_, l, he, hg, hA⟩
set_option maxRecDepth 100000 in
theorem open_first {v : Value} {d : DataW H} {p : List MemPlace} {r : Reach} {b0 : Nat} (h : DataW.Trod enc Tryz.prog w base spare held 28 v d p) (ho : Value.okWide Tryz.prog w r b0 28 v) :
    ∃ F : Fst, FstBd F ∧ FstAt w v F := by
  obtain ⟨fuel, hf⟩ := h
  simp only [Value.okWide, Tryz.underlying28] at ho
  obtain ⟨ca, rfl, hl, hr⟩ := ho
  rw [fcells_first] at hl
  have hf : DataW.trod enc Tryz.prog w base spare held fuel 28 ca.toList = some (d, p) := hf
  obtain ⟨cs, hcs⟩ : ∃ cs, cs = ca.toList := ⟨_, rfl⟩
  have hca : ca = cs.toArray := by rw [hcs]
  have hlc : cs.length = 10 := by rw [hcs]; simpa using hl
  subst hca
  have hf : DataW.trod enc Tryz.prog w base spare held fuel 28 cs = some (d, p) := by simpa using hf
  clear hcs hl hr
  obtain ⟨xs, n, _, _, hlen, hxl, hg⟩ := DataW.trod_struct Tryz.underlying28 hf
  match cs, hlc with
  | [c0, c1, c2, c3, c4, c5, c6, c7, c8, c9], _ =>
    have hx : xs.length = 6 := hxl
    have f0 : DataW.trod enc Tryz.prog w base spare held n 23 (List.take (Tryz.prog.cellsOf 23) (List.drop 0 [c0, c1, c2, c3, c4, c5, c6, c7, c8, c9])) = xs[0]? := hg 0 _ rfl
    have f1 : DataW.trod enc Tryz.prog w base spare held n 4 (List.take (Tryz.prog.cellsOf 4) (List.drop 5 [c0, c1, c2, c3, c4, c5, c6, c7, c8, c9])) = xs[1]? := hg 1 _ rfl
    have f2 : DataW.trod enc Tryz.prog w base spare held n 24 (List.take (Tryz.prog.cellsOf 24) (List.drop 6 [c0, c1, c2, c3, c4, c5, c6, c7, c8, c9])) = xs[2]? := hg 2 _ rfl
    have f3 : DataW.trod enc Tryz.prog w base spare held n 25 (List.take (Tryz.prog.cellsOf 25) (List.drop 7 [c0, c1, c2, c3, c4, c5, c6, c7, c8, c9])) = xs[3]? := hg 3 _ rfl
    have f4 : DataW.trod enc Tryz.prog w base spare held n 26 (List.take (Tryz.prog.cellsOf 26) (List.drop 8 [c0, c1, c2, c3, c4, c5, c6, c7, c8, c9])) = xs[4]? := hg 4 _ rfl
    have f5 : DataW.trod enc Tryz.prog w base spare held n 3 (List.take (Tryz.prog.cellsOf 3) (List.drop 9 [c0, c1, c2, c3, c4, c5, c6, c7, c8, c9])) = xs[5]? := hg 5 _ rfl
    rw [fcells_conf, List.getElem?_eq_getElem (by omega)] at f0
    rw [fcells_bool] at f1
    rw [fcells_its, List.getElem?_eq_getElem (by omega)] at f2
    rw [fcells_puts, List.getElem?_eq_getElem (by omega)] at f3
    rw [fcells_stores, List.getElem?_eq_getElem (by omega)] at f4
    rw [fcells_int] at f5
    obtain ⟨cf, e0⟩ := conf_of_trod f0
    obtain ⟨gr, e1⟩ := leaf_bl Tryz.underlying4 f1 (by omega)
    obtain ⟨vi, it, e2, g2, a2⟩ := rows_of_trod (α := It) (f := itc) (good := fun _ => True) Tryz.underlying24 fcells_item (by omega) itc_len item_of_trod f2
    obtain ⟨vp, pu, e3, g3, a3⟩ := rows_of_trod (α := Int × Int × Int) (f := putc) (good := PuOk) Tryz.underlying25 fcells_put (by omega) (fun _ => rfl) put_of_trod f3
    obtain ⟨vs, st, e4, g4, a4⟩ := rows_of_trod (α := Int × Int) (f := stoc) (good := StOk) Tryz.underlying26 fcells_store (by omega) (fun _ => rfl) store_of_trod f4
    obtain ⟨ti, e5, w5⟩ := leaf_trod Tryz.underlying3 f5 (by omega)
    unfold cfL at e0
    simp at e0 e1 e2 e3 e4 e5
    obtain ⟨q0, q1, q2, q3, q4⟩ := e0
    subst q0 q1 q2 q3 q4 e1 e2 e3 e4 e5
    exact ⟨⟨cf, gr, it, pu, st, ti⟩, ⟨g3, g4, (bd_i64 w5).1, (bd_i64 w5).2⟩, ⟨_, _, _, rfl, a2, a3, a4⟩⟩
end
end Go.Proofs.YtkamcgcpfnkodaaGreat
