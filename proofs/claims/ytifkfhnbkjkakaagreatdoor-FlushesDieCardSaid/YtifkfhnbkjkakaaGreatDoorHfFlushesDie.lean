/- 'FlushesDie' returns true, whatever the input, and each argument reads as it did: no condition. The frame is the guide's own; the walk is 'w_FlushesDie'. -/
import Derived.Test.YtifkfhnbkjkakaaGreatDoorHgo
import Derived.Test.YtifkfhnbkjkakaaGreatDoorCards
import Derived.Test.YtifkfhnbkjkakaaGreatDoorTie
import Derived.SevenTiedAt
import Derived.SizedLaws
import Derived.LaidLaws
import Derived.LaidMore
import Derived.Test.YtifkfhnbkjkakaaGreatDoorRows
import Derived.Test.YtifkfhnbkjkakaaGreatDoorPfA
import Derived.Test.YtifkfhnbkjkakaaGreatDoorPfB
namespace Go.Proofs.YtifkfhnbkjkakaaGreatDoor.lawFlushesDie
open Go.ChangeShapes Go.WideShapes Go.ChangeAt Go.RowKit
set_option linter.unusedVariables false

theorem own : ownKnob Tryz.prog.godebug = none := by kernel_rfl
theorem laidOut : laidOutB Tryz.prog = true := pf_laid
theorem pf_lift : (Rows.flushesDieRow.lifted == Tryz.pinned.checked.prog.liftsFinal) = true := by kernel_rfl
theorem pf_make : (Tryz.pinned.checked.prog.make == some Rows.flushesDieRow.make) = true := by kernel_rfl
theorem pf_keys : (Rows.flushesDieRow.plainKeys == Tryz.pinned.checked.prog.plainKeys) = true := by kernel_rfl
set_option maxHeartbeats 8000000 in
set_option maxRecDepth 100000 in
theorem closed : joinedFacts Tryz.pinned.checked.prog 4 Tryz.f4 Rows.flushesDieSpec Rows.flushesDieRow = true := by
  simp only [joinedFacts, Bool.and_eq_true]
  repeat' (refine And.intro ?_ ?_)
  all_goals (first | (with_reducible exact pf_laid) | (with_reducible exact pf_maps) | (with_reducible exact pf_heard) | (with_reducible exact pf_enter) | (with_reducible exact pf_lift) | (with_reducible exact pf_make) | (with_reducible exact pf_keys) | (as_aux_lemma => kernel_rfl))

theorem cd_wf : Rows.flushesDieRow.wfByText (OpenSpec.ofChange Rows.flushesDieSpec) = true := by kernel_rfl
theorem cd_main : Tryz.pinned.checked.prog.mainIs = some (true, "ba1a0d1c97256539558859b5673ea669bddfd43b77f3510ad46825f7bfd956f9".toList) := by kernel_rfl
theorem cd_func : Tryz.pinned.checked.prog.funcNamed Rows.flushesDieRow.func = some 4 := by kernel_rfl
theorem cd_looks : true = Tryz.pinned.checked.prog.looks [] := by kernel_rfl
theorem cd_w27 : Tryz.pinned.checked.prog.wantsStandIn 27 = false := by kernel_rfl
theorem cd_w55 : Tryz.pinned.checked.prog.wantsStandIn 55 = false := by kernel_rfl
theorem cd_goes : false = Rows.flushesDieRow.goesBy Tryz.pinned.checked.prog := (goesAt_no _).symm
end Go.Proofs.YtifkfhnbkjkakaaGreatDoor.lawFlushesDie
