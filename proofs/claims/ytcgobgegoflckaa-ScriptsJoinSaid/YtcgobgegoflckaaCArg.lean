/- Layer 33: an argument that is a slice of commands, opened. -/
import Derived.Test.YtcgobgegoflckaaBArg
import Derived.Test.YtcgobgegoflckaaScMem
namespace Go.Proofs.Ytcgobgegoflckaa
open Go.ChangeShapes Go.WideShapes Go.Deep Go.RowKit
set_option linter.unusedVariables false

instance : Inhabited (Cm × Value) := ⟨(⟨0, 0, []⟩, .slice none 0 0)⟩
/-- What a command of an argument is. -/
def CmGood (w : World) (p : Cm × Value) : Prop := (0 ≤ p.1.kind ∧ p.1.kind ≤ 255) ∧ (-9223372036854775808 ≤ p.1.conn ∧ p.1.conn ≤ 9223372036854775807) ∧ BArr w p.2 p.1.bytes ∧ Bs p.1.bytes
section
variable {H : Type} {enc : TypeId × Value → H} {w : World} {base : Nat} {spare : Nat → Bool} {held : Bool}
theorem cells_cint : Try.prog.cellsOf 3 = 1 := by kernel_rfl
theorem cells_ckind : Try.prog.cellsOf 29 = 1 := by kernel_rfl
theorem cells_cbytes : Try.prog.cellsOf 22 = 1 := by kernel_rfl
theorem cells_cmd : Try.prog.cellsOf 31 = 3 := by kernel_rfl
set_option maxRecDepth 100000 in
/-- Bytes behind a trodden slice's one cell. -/
theorem bytes_of_trod {fuel : Nat} {cs : List Value} {x : DataW H × List MemPlace} (h : DataW.trod enc Try.prog w base spare held fuel 22 cs = some x) : ∃ (v : Value) (l : List Int), cs = [v] ∧ Bs l ∧ BArr w v l := by
  obtain ⟨ao, n, c, he, hn, hc, hi⟩ := slice_of_trod Try.underlying22 cells_byte (by omega) h
  obtain ⟨l, hl, hg, hA⟩ := arr_of_slice (α := Int) (size := 1) (f := byc) (good := fun z => 0 ≤ z ∧ z ≤ 255) (by omega) (fun _ => rfl) hn hc (fun i hin => by
    obtain ⟨R, hR, ⟨fuel', d', hT⟩, hx⟩ := hi i hin
    obtain ⟨z, h1, _, h2⟩ := DataW.trod_int Try.underlying5 hT
    exact ⟨z, bd_u8 h2, by rw [h1] at hx; exact hx⟩)
  subst hl
  exact ⟨_, l, he, hg, hA⟩
set_option maxRecDepth 100000 in
theorem cmd_of_trod {fuel : Nat} {cs : List Value} {x : DataW H × List MemPlace} (h : DataW.trod enc Try.prog w base spare held fuel 31 cs = some x) : ∃ p : Cm × Value, CmGood w p ∧ cmc p = cs := by
  obtain ⟨xs, n, _, _, hlen, hxl, hf⟩ := DataW.trod_struct Try.underlying31 h
  rw [cells_cmd] at hlen
  match cs, hlen with
  | [c0, c1, c2], _ =>
    have hx : xs.length = 3 := hxl
    have f0 : DataW.trod enc Try.prog w base spare held n 29 (List.take (Try.prog.cellsOf 29) (List.drop 0 [c0, c1, c2])) = xs[0]? := hf 0 _ rfl
    rw [cells_ckind] at f0
    have f1 : DataW.trod enc Try.prog w base spare held n 3 (List.take (Try.prog.cellsOf 3) (List.drop 1 [c0, c1, c2])) = xs[1]? := hf 1 _ rfl
    rw [cells_cint] at f1
    have f2 : DataW.trod enc Try.prog w base spare held n 22 (List.take (Try.prog.cellsOf 22) (List.drop 2 [c0, c1, c2])) = xs[2]? := hf 2 _ rfl
    rw [cells_cbytes] at f2
    obtain ⟨z0, e0, w0⟩ := leaf_trod Try.underlying29 f0 (by omega)
    obtain ⟨z1, e1, w1⟩ := leaf_trod Try.underlying3 f1 (by omega)
    rw [List.getElem?_eq_getElem (by omega)] at f2
    obtain ⟨v, l, e2, hl, hA⟩ := bytes_of_trod f2
    simp at e0 e1 e2
    subst e0 e1 e2
    exact ⟨(⟨z0, z1, l⟩, c2), ⟨bd_u8 w0, bd_i64 w1, hA, hl⟩, rfl⟩
set_option maxRecDepth 100000 in
theorem open_cmds {v : Value} {d : DataW H} {p : List MemPlace} {r : Reach} {b0 : Nat} (h : DataW.Trod enc Try.prog w base spare held 26 v d p) (ho : Value.okWide Try.prog w r b0 26 v) :
    ∃ l : List (Cm × Value), (∀ q ∈ l, CmGood w q) ∧ Arr w v l.length 3 (rowOf cmc l) := by
  obtain ⟨fuel, hf⟩ := h
  rw [cells_of_slice Try.underlying26 ho] at hf
  obtain ⟨ao, n, c, he, hn, hc, hi⟩ := slice_of_trod Try.underlying26 cells_cmd (by omega) hf
  cases he
  obtain ⟨l, hl, hg, hA⟩ := arr_of_slice (α := Cm × Value) (size := 3) (f := cmc) (good := CmGood w) (by omega) cmc_len hn hc (fun i hin => by
    obtain ⟨R, hR, ⟨fuel', d', hT⟩, hx⟩ := hi i hin
    obtain ⟨q, hok, rfl⟩ := cmd_of_trod hT
    exact ⟨q, hok, hx⟩)
  rw [← hl] at hA
  exact ⟨l, hg, by rw [hl] at hA ⊢; exact hA⟩
end
end Go.Proofs.Ytcgobgegoflckaa
