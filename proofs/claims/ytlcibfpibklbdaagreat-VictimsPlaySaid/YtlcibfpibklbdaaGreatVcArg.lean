/- An argument that is a slice of layer 24's acts, opened. -/
import Derived.Test.YtlcibfpibklbdaaGreatBaK
namespace Go.Proofs.YtlcibfpibklbdaaGreat
set_option linter.unusedSimpArgs false
open Go.ChangeShapes Go.WideShapes Go.Deep Go.RowKit
set_option linter.unusedVariables false

structure Vact where
  kd : Int
  wh : Int
  bt : Int
  hs : Int
  rf : Int
  sa : Int
  sv : Int
instance : Inhabited Vact := ⟨⟨0, 0, 0, 0, 0, 0, 0⟩⟩
def vactc (x : Vact) : List Value := [.int .u8 x.kd, .int .u8 x.wh, .int .i64 x.bt, .int .u64 x.hs, .int .i64 x.rf, .int .u64 x.sa, .int .u64 x.sv]
structure VactOk (x : Vact) : Prop where
  kd0 : 0 ≤ x.kd
  kd1 : x.kd ≤ 255
  wh0 : 0 ≤ x.wh
  wh1 : x.wh ≤ 255
  bt0 : -9223372036854775808 ≤ x.bt
  bt1 : x.bt ≤ 9223372036854775807
  hs0 : 0 ≤ x.hs
  hs1 : x.hs ≤ 18446744073709551615
  rf0 : -9223372036854775808 ≤ x.rf
  rf1 : x.rf ≤ 9223372036854775807
  sa0 : 0 ≤ x.sa
  sa1 : x.sa ≤ 18446744073709551615
  sv0 : 0 ≤ x.sv
  sv1 : x.sv ≤ 18446744073709551615
section
variable {H : Type} {enc : TypeId × Value → H} {w : World} {base : Nat} {spare : Nat → Bool} {held : Bool}
theorem fcells_vact : Tryz.prog.cellsOf 138 = 7 := by kernel_rfl
set_option maxRecDepth 100000 in
theorem vact_of_trod {fuel : Nat} {cs : List Value} {x : DataW H × List MemPlace} (h : DataW.trod enc Tryz.prog w base spare held fuel 138 cs = some x) : ∃ p : Vact, VactOk p ∧ vactc p = cs := by
  obtain ⟨xs, n, _, _, hlen, hxl, hf⟩ := DataW.trod_struct Tryz.underlying138 h
  rw [fcells_vact] at hlen
  match cs, hlen with
  | [c0, c1, c2, c3, c4, c5, c6], _ =>
    have hx : xs.length = 6 := hxl
    have f0 : DataW.trod enc Tryz.prog w base spare held n 5 (List.take (Tryz.prog.cellsOf 5) (List.drop 0 [c0, c1, c2, c3, c4, c5, c6])) = xs[0]? := hf 0 _ rfl
    have f1 : DataW.trod enc Tryz.prog w base spare held n 5 (List.take (Tryz.prog.cellsOf 5) (List.drop 1 [c0, c1, c2, c3, c4, c5, c6])) = xs[1]? := hf 1 _ rfl
    have f2 : DataW.trod enc Tryz.prog w base spare held n 3 (List.take (Tryz.prog.cellsOf 3) (List.drop 2 [c0, c1, c2, c3, c4, c5, c6])) = xs[2]? := hf 2 _ rfl
    have f3 : DataW.trod enc Tryz.prog w base spare held n 27 (List.take (Tryz.prog.cellsOf 27) (List.drop 3 [c0, c1, c2, c3, c4, c5, c6])) = xs[3]? := hf 3 _ rfl
    have f4 : DataW.trod enc Tryz.prog w base spare held n 3 (List.take (Tryz.prog.cellsOf 3) (List.drop 4 [c0, c1, c2, c3, c4, c5, c6])) = xs[4]? := hf 4 _ rfl
    have f5 : DataW.trod enc Tryz.prog w base spare held n 118 (List.take (Tryz.prog.cellsOf 118) (List.drop 5 [c0, c1, c2, c3, c4, c5, c6])) = xs[5]? := hf 5 _ rfl
    rw [fcells_u8] at f0 f1
    rw [fcells_int] at f2 f4
    rw [fcells_u64] at f3
    rw [fcells_store, List.getElem?_eq_getElem (by omega)] at f5
    obtain ⟨z0, e0, w0⟩ := leaf_trod Tryz.underlying5 f0 (by omega)
    obtain ⟨z1, e1, w1⟩ := leaf_trod Tryz.underlying5 f1 (by omega)
    obtain ⟨z2, e2, w2⟩ := leaf_trod Tryz.underlying3 f2 (by omega)
    obtain ⟨z3, e3, w3⟩ := leaf_trod Tryz.underlying27 f3 (by omega)
    obtain ⟨z4, e4, w4⟩ := leaf_trod Tryz.underlying3 f4 (by omega)
    obtain ⟨⟨sa, sv⟩, hs, e5⟩ := store_of_trod f5
    unfold stoc at e5
    simp at e0 e1 e2 e3 e4 e5
    obtain ⟨q5, q5'⟩ := e5
    subst e0 e1 e2 e3 e4 q5 q5'
    have h1 := hs.1.2
    have h2 := hs.2.2
    dsimp only at h1 h2
    exact ⟨⟨z0, z1, z2, z3, z4, sa, sv⟩, ⟨(bd_u8 w0).1, (bd_u8 w0).2, (bd_u8 w1).1, (bd_u8 w1).2, (bd_i64 w2).1, (bd_i64 w2).2, (bd_u64 w3).1, (bd_u64 w3).2, (bd_i64 w4).1, (bd_i64 w4).2, hs.1.1, by show sa ≤ 18446744073709551615; omega, hs.2.1, by show sv ≤ 18446744073709551615; omega⟩, rfl⟩
set_option maxRecDepth 100000 in
theorem open_vacts {v : Value} {d : DataW H} {p : List MemPlace} {r : Reach} {b0 : Nat} (h : DataW.Trod enc Tryz.prog w base spare held 135 v d p) (ho : Value.okWide Tryz.prog w r b0 135 v) :
    ∃ l : List Vact, (∀ q ∈ l, VactOk q) ∧ Arr w v l.length 7 (rowOf vactc l) := by
  obtain ⟨fuel, hf⟩ := h
  rw [cells_of_slice Tryz.underlying135 ho] at hf
  obtain ⟨v', l, he, hg, hA⟩ := rows_of_trod (α := Vact) (f := vactc) (good := VactOk) Tryz.underlying135 fcells_vact (by omega) (fun _ => rfl) vact_of_trod hf
  cases he
  exact ⟨l, hg, hA⟩
end
end Go.Proofs.YtlcibfpibklbdaaGreat
