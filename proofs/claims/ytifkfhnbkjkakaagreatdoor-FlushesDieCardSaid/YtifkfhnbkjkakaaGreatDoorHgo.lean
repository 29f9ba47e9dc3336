/- No function of the program starts a goroutine. -/
import Derived.Test.YtifkfhnbkjkakaaGreatDoorRows
import Derived.KernelRfl
import GoSem.ClaimGoes
namespace Go.Proofs.YtifkfhnbkjkakaaGreatDoor
set_option linter.unusedVariables false
set_option linter.unusedSimpArgs false
theorem ng_all : Tryz.prog.funcs.toList.all (fun fn => !fn.goes) = true := by kernel_rfl
theorem no_goes (g : FuncId) : (Tryz.prog.funcs[g]?).any Func.goes = false := by
  obtain ⟨o, ho⟩ : ∃ o, o = Tryz.prog.funcs[g]? := ⟨_, rfl⟩
  rw [← ho]
  cases o with
  | none => rfl
  | some fn =>
    have hm : fn ∈ Tryz.prog.funcs.toList := List.mem_of_getElem? (by rw [Array.getElem?_toList]; exact ho.symm)
    have := List.all_eq_true.1 ng_all fn hm
    show fn.goes = false
    simpa using this
theorem goes_no (f : FuncId) : Tryz.prog.goes f = false := by
  unfold Program.goes
  rw [Bool.or_eq_false_iff]
  refine ⟨?_, ?_⟩
  · rw [List.any_eq_false]
    intro g _
    rw [no_goes g]
    decide
  · rw [Bool.and_eq_false_iff]
    right
    rw [← Array.any_toList, List.any_eq_false]
    intro fn hm
    have := List.all_eq_true.1 ng_all fn hm
    simpa using this
theorem goesAt_no (func : String) : Tryz.prog.goesAt .entering func = false := by
  unfold Program.goesAt Program.goesFrom
  obtain ⟨o, ho⟩ : ∃ o, o = Tryz.prog.funcNamed func := ⟨_, rfl⟩
  rw [← ho]
  cases o with
  | none => rfl
  | some f =>
    have h := goes_no f
    obtain ⟨b, hb⟩ : ∃ b, b = Tryz.prog.goes f := ⟨_, rfl⟩
    rw [← hb] at h
    rw [Option.any_some, ← hb, h]
    rfl
end Go.Proofs.YtifkfhnbkjkakaaGreatDoor
