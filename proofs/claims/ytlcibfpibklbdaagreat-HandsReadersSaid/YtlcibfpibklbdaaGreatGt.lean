/- A scope that is left by one goto, forward, to a label: what stands behind the label is walked from there. -/
import Derived.WalkMore
import Derived.ScopeJumps
import Derived.Test.YtlcibfpibklbdaaGreatBaA
namespace Go.Proofs.YtlcibfpibklbdaaGreat
set_option linter.unusedSimpArgs false
open Go.RowKit
set_option linter.unusedVariables false

theorem wp_scope_once {P : Program} {a : Act} {w : World} {Q : Exit → Act → World → Prop} {c rest : Code} (l : Nat) (hf : findLabel c l = some rest)
    (first : ∀ J : Act → World → Prop, (∀ a w, rest.wp P (Exit.noGoto Q) a w → J a w) → c.wp P (Exit.jump l J Q) a w) : (Code.scope c).wp P Q a w := by
  refine wp_scope_jumps l (fun a w => rest.wp P (Exit.noGoto Q) a w) (fun _ _ => 0) hf (first _ fun _ _ h => h) fun a w hJ => ?_
  refine wp_mono hJ fun e a w h => ?_
  cases e with
  | goto l => exact absurd h id
  | _ => exact h
end Go.Proofs.YtlcibfpibklbdaaGreat
