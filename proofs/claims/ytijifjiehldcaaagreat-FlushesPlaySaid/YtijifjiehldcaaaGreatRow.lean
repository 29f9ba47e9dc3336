/- What a law has behind its Begin. -/
import Derived.Test.YtijifjiehldcaaaGreatRow0
import Derived.Test.YtijifjiehldcaaaGreatBg
namespace Go.Proofs.YtijifjiehldcaaaGreat
set_option linter.unusedSimpArgs false
open Go.RowKit
set_option linter.unusedVariables false

/-- What a law has behind its Begin. -/
theorem env_begin0 {S : Nat → Prop} {w W w1 : World} {G : Om} (hb : Below w.heap.size w W) (e : Ext S O0 W G w1) : Env w G w1 := by
  refine ⟨fun j hj => ?_, e.hi, hb.trans ((e.wr.below (fun k _ hk => absurd rfl hk.2) (Nat.le_refl _)).mono hb.size)⟩
  by_cases h : j < W.heap.size
  · exact absurd (e.lo j h) (by show ¬ G j = 0; exact hj)
  · have := hb.size; omega
end Go.Proofs.YtijifjiehldcaaaGreat
