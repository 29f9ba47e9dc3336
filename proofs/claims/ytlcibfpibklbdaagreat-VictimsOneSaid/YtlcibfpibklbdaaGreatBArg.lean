/- An argument that is a slice of bytes, opened. -/
import Derived.Test.YtlcibfpibklbdaaGreatBaK
import Derived.Test.YtlcibfpibklbdaaGreatRows
namespace Go.Proofs.YtlcibfpibklbdaaGreat
set_option linter.unusedSimpArgs false
open Go.ChangeShapes Go.WideShapes Go.Deep Go.RowKit
set_option linter.unusedVariables false

def byArg (z : Int) : List Value := [.int .u8 z]
section
variable {H : Type} {enc : TypeId × Value → H} {w : World} {base : Nat} {spare : Nat → Bool} {held : Bool}
theorem cells_byte : Tryz.prog.cellsOf 5 = 1 := by kernel_rfl
set_option maxRecDepth 100000 in
theorem open_bytes {v : Value} {d : DataW H} {p : List MemPlace} {r : Reach} {b0 : Nat} (h : DataW.Trod enc Tryz.prog w base spare held 24 v d p) (ho : Value.okWide Tryz.prog w r b0 24 v) :
    ∃ l : List Int, (∀ z ∈ l, 0 ≤ z ∧ z ≤ 255) ∧ Arr w v l.length 1 (rowOf byArg l) := by
  obtain ⟨fuel, hf⟩ := h
  rw [cells_of_slice Tryz.underlying24 ho] at hf
  obtain ⟨ao, n, c, he, hn, hc, hi⟩ := slice_of_trod Tryz.underlying24 cells_byte (by omega) hf
  cases he
  obtain ⟨l, hl, hg, hA⟩ := arr_of_slice (α := Int) (size := 1) (f := byArg) (good := fun z => 0 ≤ z ∧ z ≤ 255) (by omega) (fun _ => rfl) hn hc (fun i hin => by
    obtain ⟨R, hR, ⟨fuel', d', hT⟩, hx⟩ := hi i hin
    obtain ⟨z, h1, _, h2⟩ := DataW.trod_int Tryz.underlying5 hT
    exact ⟨z, bd_u8 h2, by rw [h1] at hx; exact hx⟩)
  rw [← hl] at hA
  exact ⟨l, hg, by rw [hl] at hA ⊢; exact hA⟩
end
end Go.Proofs.YtlcibfpibklbdaaGreat
