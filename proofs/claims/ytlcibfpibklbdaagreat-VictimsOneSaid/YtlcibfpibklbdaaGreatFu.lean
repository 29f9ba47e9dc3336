/- An argument that is a table that is filled (nestboxlaw17.Full), opened; is it great? -/
import Derived.Test.YtlcibfpibklbdaaGreatBaK
import Derived.Test.YtlcibfpibklbdaaGreatBArg
namespace Go.Proofs.YtlcibfpibklbdaaGreat
set_option linter.unusedSimpArgs false
open Go.ChangeShapes Go.WideShapes Go.Deep Go.RowKit
set_option linter.unusedVariables false

structure Ful where
  bi : Int
  ks : List ByteArray
  ly : List (Int × Int × Int)
  ky : ByteArray
  mo : Int
  sp : List Int
instance : Inhabited ByteArray := ⟨⟨#[]⟩⟩
def strc (s : ByteArray) : List Value := [.string s]
def u3c (p : Int × Int × Int) : List Value := [.int .u8 p.1, .int .u8 p.2.1, .int .u8 p.2.2]
def fulC (F : Ful) (vk vl vs : Value) : List Value := [.int .u8 F.bi, vk, vl, .string F.ky, .int .u8 F.mo, vs]
def fulV (F : Ful) (vk vl vs : Value) : Value := .agg #[.int .u8 F.bi, vk, vl, .string F.ky, .int .u8 F.mo, vs]
structure FulBd (F : Ful) : Prop where
  b0 : 0 ≤ F.bi
  b1 : F.bi ≤ 255
  m0 : 0 ≤ F.mo
  m1 : F.mo ≤ 255
  kz : F.ky.size ≤ maxLen
  ks : ∀ k ∈ F.ks, k.size ≤ maxLen
  ly : ∀ p ∈ F.ly, PuOk p
  sp : ∀ z ∈ F.sp, 0 ≤ z ∧ z ≤ 255
structure FulAt (w : World) (v : Value) (F : Ful) : Prop where
  ex : ∃ vk vl vs, v = fulV F vk vl vs ∧ Arr w vk F.ks.length 1 (rowOf strc F.ks) ∧ Arr w vl F.ly.length 3 (rowOf u3c F.ly) ∧ Arr w vs F.sp.length 1 (rowOf byArg F.sp)
theorem FulAt.below {w w' : World} {v : Value} {F : Ful} (h : FulAt w v F) (hb : Below w.heap.size w w') : FulAt w' v F := by
  obtain ⟨vk, vl, vs, rfl, h1, h2, h3⟩ := h.ex
  exact ⟨vk, vl, vs, rfl, h1.below hb, h2.below hb, h3.below hb⟩
section
variable {H : Type} {enc : TypeId × Value → H} {w : World} {base : Nat} {spare : Nat → Bool} {held : Bool}
theorem fcells_full : Tryz.prog.cellsOf 26 = 6 := by kernel_rfl
theorem fcells_u3 : Tryz.prog.cellsOf 185 = 3 := by kernel_rfl
theorem fcells_strs : Tryz.prog.cellsOf 22 = 1 := by kernel_rfl
theorem fcells_u3s : Tryz.prog.cellsOf 23 = 1 := by kernel_rfl
theorem fcells_bys : Tryz.prog.cellsOf 24 = 1 := by kernel_rfl
set_option maxRecDepth 100000 in
theorem str_of_trod {fuel : Nat} {cs : List Value} {x : DataW H × List MemPlace} (h : DataW.trod enc Tryz.prog w base spare held fuel 9 cs = some x) : ∃ p : ByteArray, p.size ≤ maxLen ∧ strc p = cs := by
  obtain ⟨z, h1, _, h2⟩ := DataW.trod_string Tryz.underlying9 h
  exact ⟨z, h2, h1.symm⟩
set_option maxRecDepth 100000 in
theorem by_of_trod {fuel : Nat} {cs : List Value} {x : DataW H × List MemPlace} (h : DataW.trod enc Tryz.prog w base spare held fuel 5 cs = some x) : ∃ p : Int, (0 ≤ p ∧ p ≤ 255) ∧ byArg p = cs := by
  obtain ⟨z, h1, _, h2⟩ := DataW.trod_int Tryz.underlying5 h
  exact ⟨z, bd_u8 h2, h1.symm⟩
set_option maxRecDepth 100000 in
theorem u3_of_trod {fuel : Nat} {cs : List Value} {x : DataW H × List MemPlace} (h : DataW.trod enc Tryz.prog w base spare held fuel 185 cs = some x) : ∃ p : Int × Int × Int, PuOk p ∧ u3c p = cs := by
  obtain ⟨xs, n, _, _, hlen, hxl, hf⟩ := DataW.trod_array Tryz.underlying185 h
  rw [fcells_u3] at hlen
  match cs, hlen with
  | [c0, c1, c2], _ =>
    have hx : xs.length = 3 := hxl
    have f0 := hf 0 (by omega)
    have f1 := hf 1 (by omega)
    have f2 := hf 2 (by omega)
    rw [fcells_u8] at f0 f1 f2
    obtain ⟨z0, e0, w0⟩ := leaf_trod Tryz.underlying5 f0 (by omega)
    obtain ⟨z1, e1, w1⟩ := leaf_trod Tryz.underlying5 f1 (by omega)
    obtain ⟨z2, e2, w2⟩ := leaf_trod Tryz.underlying5 f2 (by omega)
    simp at e0 e1 e2
    subst e0 e1 e2
    have b0 := bd_u8 w0
    have b1 := bd_u8 w1
    have b2 := bd_u8 w2
    exact ⟨(z0, z1, z2), ⟨⟨b0.1, by show z0 < 256; omega⟩, ⟨b1.1, by show z1 < 256; omega⟩, ⟨b2.1, by show z2 < 256; omega⟩⟩, rfl⟩
set_option maxRecDepth 100000 in
theorem open_full {v : Value} {d : DataW H} {p : List MemPlace} {r : Reach} {b0 : Nat} (h : DataW.Trod enc Tryz.prog w base spare held 26 v d p) (ho : Value.okWide Tryz.prog w r b0 26 v) :
    ∃ F : Ful, FulBd F ∧ FulAt w v F := by
  obtain ⟨fuel, hf⟩ := h
  simp only [Value.okWide, Tryz.underlying26] at ho
  obtain ⟨ca, rfl, hl, hr⟩ := ho
  rw [fcells_full] at hl
  have hf : DataW.trod enc Tryz.prog w base spare held fuel 26 ca.toList = some (d, p) := hf
  obtain ⟨cs, hcs⟩ : ∃ cs, cs = ca.toList := ⟨_, rfl⟩
  have hca : ca = cs.toArray := by rw [hcs]
  have hlc : cs.length = 6 := by rw [hcs]; simpa using hl
  subst hca
  have hf : DataW.trod enc Tryz.prog w base spare held fuel 26 cs = some (d, p) := by simpa using hf
  clear hcs hl hr
  obtain ⟨xs, n, _, _, hlen, hxl, hg⟩ := DataW.trod_struct Tryz.underlying26 hf
  match cs, hlc with
  | [c0, c1, c2, c3, c4, c5], _ =>
    have hx : xs.length = 6 := hxl
    have f0 : DataW.trod enc Tryz.prog w base spare held n 5 (List.take (Tryz.prog.cellsOf 5) (List.drop 0 [c0, c1, c2, c3, c4, c5])) = xs[0]? := hg 0 _ rfl
    have f1 : DataW.trod enc Tryz.prog w base spare held n 22 (List.take (Tryz.prog.cellsOf 22) (List.drop 1 [c0, c1, c2, c3, c4, c5])) = xs[1]? := hg 1 _ rfl
    have f2 : DataW.trod enc Tryz.prog w base spare held n 23 (List.take (Tryz.prog.cellsOf 23) (List.drop 2 [c0, c1, c2, c3, c4, c5])) = xs[2]? := hg 2 _ rfl
    have f3 : DataW.trod enc Tryz.prog w base spare held n 9 (List.take (Tryz.prog.cellsOf 9) (List.drop 3 [c0, c1, c2, c3, c4, c5])) = xs[3]? := hg 3 _ rfl
    have f4 : DataW.trod enc Tryz.prog w base spare held n 5 (List.take (Tryz.prog.cellsOf 5) (List.drop 4 [c0, c1, c2, c3, c4, c5])) = xs[4]? := hg 4 _ rfl
    have f5 : DataW.trod enc Tryz.prog w base spare held n 24 (List.take (Tryz.prog.cellsOf 24) (List.drop 5 [c0, c1, c2, c3, c4, c5])) = xs[5]? := hg 5 _ rfl
    rw [fcells_u8] at f0 f4
    rw [fcells_strs, List.getElem?_eq_getElem (by omega)] at f1
    rw [fcells_u3s, List.getElem?_eq_getElem (by omega)] at f2
    rw [fcells_str, List.getElem?_eq_getElem (by omega)] at f3
    rw [fcells_bys, List.getElem?_eq_getElem (by omega)] at f5
    obtain ⟨bi, e0, w0⟩ := leaf_trod Tryz.underlying5 f0 (by omega)
    obtain ⟨vk, ks, e1, g1, a1⟩ := rows_of_trod (α := ByteArray) (f := strc) (good := fun p => p.size ≤ maxLen) Tryz.underlying22 fcells_str (by omega) (fun _ => rfl) str_of_trod f1
    obtain ⟨vl, ly, e2, g2, a2⟩ := rows_of_trod (α := Int × Int × Int) (f := u3c) (good := PuOk) Tryz.underlying23 fcells_u3 (by omega) (fun _ => rfl) u3_of_trod f2
    obtain ⟨ky, hk, e3⟩ := str_of_trod f3
    obtain ⟨mo, e4, w4⟩ := leaf_trod Tryz.underlying5 f4 (by omega)
    obtain ⟨vs, sp, e5, g5, a5⟩ := rows_of_trod (α := Int) (f := byArg) (good := fun z => 0 ≤ z ∧ z ≤ 255) Tryz.underlying24 fcells_u8 (by omega) (fun _ => rfl) by_of_trod f5
    unfold strc at e3
    simp at e0 e1 e2 e3 e4 e5
    subst e0 e1 e2 e3 e4 e5
    exact ⟨⟨bi, ks, ly, ky, mo, sp⟩, ⟨(bd_u8 w0).1, (bd_u8 w0).2, (bd_u8 w4).1, (bd_u8 w4).2, hk, g1, g2, g5⟩, ⟨_, _, _, rfl, a1, a2, a5⟩⟩
end
end Go.Proofs.YtlcibfpibklbdaaGreat
