/- Layer 9: an argument that is a slice of notes. -/
import Derived.Test.YtcgjopjjmgpobaaNtPlain
import Derived.Test.YtcgjopjjmgpobaaArg
import Derived.Test.YtcgjopjjmgpobaaFrame
import Derived.Test.YtcgjopjjmgpobaaRows
namespace Go.Proofs.Ytcgjopjjmgpobaa
open Go.ChangeShapes Go.WideShapes Go.Deep Go.RowKit
set_option linter.unusedVariables false

instance : Inhabited Nt := ⟨⟨0, 0, 0, 0, 0, 0, 0, 0⟩⟩
section
variable {H : Type} {enc : TypeId × Value → H} {w : World} {base : Nat} {spare : Nat → Bool} {held : Bool}
theorem cells_int : Try.prog.cellsOf 3 = 1 := by kernel_rfl
theorem cells_kind : Try.prog.cellsOf 50 = 1 := by kernel_rfl
theorem cells_spot : Try.prog.cellsOf 54 = 3 := by kernel_rfl
theorem cells_place : Try.prog.cellsOf 52 = 2 := by kernel_rfl
theorem cells_note : Try.prog.cellsOf 56 = 8 := by kernel_rfl
theorem nt_of_trod {fuel : Nat} {cs : List Value} {x : DataW H × List MemPlace} (h : DataW.trod enc Try.prog w base spare held fuel 56 cs = some x) : ∃ n : Nt, n.ok ∧ ntc n = cs := by
  obtain ⟨xs, n, _, _, hlen, hxl, hf⟩ := DataW.trod_struct Try.underlying56 h
  rw [cells_note] at hlen
  match cs, hlen with
  | [c0, c1, c2, c3, c4, c5, c6, c7], _ =>
    have hx : xs.length = 6 := hxl
    have f0 : DataW.trod enc Try.prog w base spare held n 3 (List.take (Try.prog.cellsOf 3) (List.drop 0 [c0, c1, c2, c3, c4, c5, c6, c7])) = xs[0]? := hf 0 _ rfl
    rw [cells_int] at f0
    have f1 : DataW.trod enc Try.prog w base spare held n 3 (List.take (Try.prog.cellsOf 3) (List.drop 1 [c0, c1, c2, c3, c4, c5, c6, c7])) = xs[1]? := hf 1 _ rfl
    rw [cells_int] at f1
    have f2 : DataW.trod enc Try.prog w base spare held n 50 (List.take (Try.prog.cellsOf 50) (List.drop 2 [c0, c1, c2, c3, c4, c5, c6, c7])) = xs[2]? := hf 2 _ rfl
    rw [cells_kind] at f2
    have f3 : DataW.trod enc Try.prog w base spare held n 3 (List.take (Try.prog.cellsOf 3) (List.drop 3 [c0, c1, c2, c3, c4, c5, c6, c7])) = xs[3]? := hf 3 _ rfl
    rw [cells_int] at f3
    have f4 : DataW.trod enc Try.prog w base spare held n 54 (List.take (Try.prog.cellsOf 54) (List.drop 4 [c0, c1, c2, c3, c4, c5, c6, c7])) = xs[4]? := hf 4 _ rfl
    rw [cells_spot] at f4
    have f5 : DataW.trod enc Try.prog w base spare held n 3 (List.take (Try.prog.cellsOf 3) (List.drop 7 [c0, c1, c2, c3, c4, c5, c6, c7])) = xs[5]? := hf 5 _ rfl
    rw [cells_int] at f5
    obtain ⟨z0, e0, w0⟩ := leaf_trod Try.underlying3 f0 (by omega)
    obtain ⟨z1, e1, w1⟩ := leaf_trod Try.underlying3 f1 (by omega)
    obtain ⟨z2, e2, w2⟩ := leaf_trod Try.underlying50 f2 (by omega)
    obtain ⟨z3, e3, w3⟩ := leaf_trod Try.underlying3 f3 (by omega)
    obtain ⟨z5, e5, w5⟩ := leaf_trod Try.underlying3 f5 (by omega)
    rw [List.getElem?_eq_getElem (by omega)] at f4
    obtain ⟨ys, n4, _, _, _, hyl, gf⟩ := DataW.trod_struct Try.underlying54 f4
    have hy : ys.length = 2 := hyl
    have g0 : DataW.trod enc Try.prog w base spare held n4 52 (List.take (Try.prog.cellsOf 52) (List.drop 0 (List.take 3 (List.drop 4 [c0, c1, c2, c3, c4, c5, c6, c7])))) = ys[0]? := gf 0 _ rfl
    have g1 : DataW.trod enc Try.prog w base spare held n4 3 (List.take (Try.prog.cellsOf 3) (List.drop 2 (List.take 3 (List.drop 4 [c0, c1, c2, c3, c4, c5, c6, c7])))) = ys[1]? := gf 1 _ rfl
    rw [cells_place] at g0
    rw [cells_int] at g1
    obtain ⟨z6, e6, w6⟩ := leaf_trod Try.underlying3 g1 (by omega)
    rw [List.getElem?_eq_getElem (by omega)] at g0
    obtain ⟨us, n5, _, _, _, hul, kf⟩ := DataW.trod_struct Try.underlying52 g0
    have hu : us.length = 2 := hul
    have k0 : DataW.trod enc Try.prog w base spare held n5 3 (List.take (Try.prog.cellsOf 3) (List.drop 0 (List.take 2 (List.drop 0 (List.take 3 (List.drop 4 [c0, c1, c2, c3, c4, c5, c6, c7])))))) = us[0]? := kf 0 _ rfl
    have k1 : DataW.trod enc Try.prog w base spare held n5 3 (List.take (Try.prog.cellsOf 3) (List.drop 1 (List.take 2 (List.drop 0 (List.take 3 (List.drop 4 [c0, c1, c2, c3, c4, c5, c6, c7])))))) = us[1]? := kf 1 _ rfl
    rw [cells_int] at k0 k1
    obtain ⟨z4, e4, w4⟩ := leaf_trod Try.underlying3 k0 (by omega)
    obtain ⟨z7, e7, w7⟩ := leaf_trod Try.underlying3 k1 (by omega)
    simp at e0 e1 e2 e3 e4 e5 e6 e7
    subst e0 e1 e2 e3 e4 e5 e6 e7
    exact ⟨⟨z0, z1, z2, z3, z4, z7, z6, z5⟩, ⟨(bd_i64 w0).1, (bd_i64 w0).2, (bd_i64 w1).1, (bd_i64 w1).2, (bd_u8 w2).1, (bd_u8 w2).2, (bd_i64 w3).1, (bd_i64 w3).2⟩, rfl⟩
theorem open_notes {v : Value} {d : DataW H} {p : List MemPlace} {r : Reach} {b0 : Nat} (h : DataW.Trod enc Try.prog w base spare held 44 v d p) (ho : Value.okWide Try.prog w r b0 44 v) :
    ∃ l : List Nt, (∀ n ∈ l, n.ok) ∧ Arr w v l.length 8 (rowOf ntc l) := by
  obtain ⟨fuel, hf⟩ := h
  rw [cells_of_slice Try.underlying44 ho] at hf
  obtain ⟨ao, n, c, he, hn, hc, hi⟩ := slice_of_trod Try.underlying44 cells_note (by omega) hf
  cases he
  obtain ⟨l, hl, hg, hA⟩ := arr_of_slice (α := Nt) (f := ntc) (good := Nt.ok) (by omega) ntc_len hn hc (fun i hin => by
    obtain ⟨R, hR, ⟨fuel', d', hT⟩, hx⟩ := hi i hin
    obtain ⟨nt, hok, rfl⟩ := nt_of_trod hT
    exact ⟨nt, hok, hx⟩)
  rw [← hl] at hA
  exact ⟨l, hg, by rw [hl] at hA ⊢; exact hA⟩
end
end Go.Proofs.Ytcgjopjjmgpobaa
