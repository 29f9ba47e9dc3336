/- An argument that is a slice of layer 23's acts, opened. -/
import Derived.Test.YtlcibfpibklbdaaGreatBaK
namespace Go.Proofs.YtlcibfpibklbdaaGreat
set_option linter.unusedSimpArgs false
open Go.ChangeShapes Go.WideShapes Go.Deep Go.RowKit
set_option linter.unusedVariables false

structure Hact where
  kd : Int
  wh : Int
  rf : Int
  sa : Int
  sv : Int
instance : Inhabited Hact := ⟨⟨0, 0, 0, 0, 0⟩⟩
def hactc (x : Hact) : List Value := [.int .u8 x.kd, .int .u8 x.wh, .int .u8 x.rf, .int .u64 x.sa, .int .u64 x.sv]
structure HactOk (x : Hact) : Prop where
  kd0 : 0 ≤ x.kd
  kd1 : x.kd ≤ 255
  wh0 : 0 ≤ x.wh
  wh1 : x.wh ≤ 255
  rf0 : 0 ≤ x.rf
  rf1 : x.rf ≤ 255
  sa0 : 0 ≤ x.sa
  sa1 : x.sa ≤ 18446744073709551615
  sv0 : 0 ≤ x.sv
  sv1 : x.sv ≤ 18446744073709551615
section
variable {H : Type} {enc : TypeId × Value → H} {w : World} {base : Nat} {spare : Nat → Bool} {held : Bool}
theorem fcells_hact : Tryz.prog.cellsOf 120 = 5 := by kernel_rfl
set_option maxRecDepth 100000 in
theorem hact_of_trod {fuel : Nat} {cs : List Value} {x : DataW H × List MemPlace} (h : DataW.trod enc Tryz.prog w base spare held fuel 120 cs = some x) : ∃ p : Hact, HactOk p ∧ hactc p = cs := by
  obtain ⟨xs, n, _, _, hlen, hxl, hf⟩ := DataW.trod_struct Tryz.underlying120 h
  rw [fcells_hact] at hlen
  match cs, hlen with
  | [c0, c1, c2, c3, c4], _ =>
    have hx : xs.length = 4 := hxl
    have f0 : DataW.trod enc Tryz.prog w base spare held n 5 (List.take (Tryz.prog.cellsOf 5) (List.drop 0 [c0, c1, c2, c3, c4])) = xs[0]? := hf 0 _ rfl
    have f1 : DataW.trod enc Tryz.prog w base spare held n 5 (List.take (Tryz.prog.cellsOf 5) (List.drop 1 [c0, c1, c2, c3, c4])) = xs[1]? := hf 1 _ rfl
    have f2 : DataW.trod enc Tryz.prog w base spare held n 5 (List.take (Tryz.prog.cellsOf 5) (List.drop 2 [c0, c1, c2, c3, c4])) = xs[2]? := hf 2 _ rfl
    have f3 : DataW.trod enc Tryz.prog w base spare held n 118 (List.take (Tryz.prog.cellsOf 118) (List.drop 3 [c0, c1, c2, c3, c4])) = xs[3]? := hf 3 _ rfl
    rw [fcells_u8] at f0 f1 f2
    rw [fcells_store, List.getElem?_eq_getElem (by omega)] at f3
    obtain ⟨z0, e0, w0⟩ := leaf_trod Tryz.underlying5 f0 (by omega)
    obtain ⟨z1, e1, w1⟩ := leaf_trod Tryz.underlying5 f1 (by omega)
    obtain ⟨z2, e2, w2⟩ := leaf_trod Tryz.underlying5 f2 (by omega)
    obtain ⟨⟨sa, sv⟩, hs, e3⟩ := store_of_trod f3
    unfold stoc at e3
    simp at e0 e1 e2 e3
    obtain ⟨q3, q3'⟩ := e3
    subst e0 e1 e2 q3 q3'
    have h1 := hs.1.2
    have h2 := hs.2.2
    dsimp only at h1 h2
    exact ⟨⟨z0, z1, z2, sa, sv⟩, ⟨(bd_u8 w0).1, (bd_u8 w0).2, (bd_u8 w1).1, (bd_u8 w1).2, (bd_u8 w2).1, (bd_u8 w2).2, hs.1.1, by show sa ≤ 18446744073709551615; omega, hs.2.1, by show sv ≤ 18446744073709551615; omega⟩, rfl⟩
set_option maxRecDepth 100000 in
theorem open_hacts {v : Value} {d : DataW H} {p : List MemPlace} {r : Reach} {b0 : Nat} (h : DataW.Trod enc Tryz.prog w base spare held 115 v d p) (ho : Value.okWide Tryz.prog w r b0 115 v) :
    ∃ l : List Hact, (∀ q ∈ l, HactOk q) ∧ Arr w v l.length 5 (rowOf hactc l) := by
  obtain ⟨fuel, hf⟩ := h
  rw [cells_of_slice Tryz.underlying115 ho] at hf
  obtain ⟨v', l, he, hg, hA⟩ := rows_of_trod (α := Hact) (f := hactc) (good := HactOk) Tryz.underlying115 fcells_hact (by omega) (fun _ => rfl) hact_of_trod hf
  cases he
  exact ⟨l, hg, hA⟩
end
end Go.Proofs.YtlcibfpibklbdaaGreat
