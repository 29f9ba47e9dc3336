/- Over any program: a function value against nil. -/
import Derived.WalkKit
import Derived.WalkSpells
namespace Go.Proofs.YtijifjiehldcaaaGreat
set_option linter.unusedVariables false
set_option linter.unusedSimpArgs false
open Go.RowKit

section
variable {P : Program}
theorem equalIn_func_nil (w : World) (d : Nat) (t : TypeId) (ps rs : Array TypeId) (vr : Bool) (f : Fn) (a c : Array Value) (h : P.underlying t = some (.func ps rs vr)) :
    (Op.equalIn (d + 1) t (.func f a c) .nilFunc).run P w = .ok false w := by
  simp [Op.equalIn, run_underlying h]
theorem equalIn_nil_nil (w : World) (d : Nat) (t : TypeId) (ps rs : Array TypeId) (vr : Bool) (h : P.underlying t = some (.func ps rs vr)) :
    (Op.equalIn (d + 1) t .nilFunc .nilFunc).run P w = .ok true w := by
  simp [Op.equalIn, run_underlying h]
theorem run_eql_func_nil (w : World) (t : TypeId) (ps rs : Array TypeId) (vr : Bool) (f : Fn) (a c : Array Value) (h : P.underlying t = some (.func ps rs vr)) :
    (binOp .eql t (.func f a c) .nilFunc).run P w = .ok (.bool false) w := by
  simp only [binOp]
  simp [Op.equal, Op.maxDepth, equalIn_func_nil w 9999 t ps rs vr f a c h]
theorem run_neq_func_nil (w : World) (t : TypeId) (ps rs : Array TypeId) (vr : Bool) (f : Fn) (a c : Array Value) (h : P.underlying t = some (.func ps rs vr)) :
    (binOp .neq t (.func f a c) .nilFunc).run P w = .ok (.bool true) w := by
  simp only [binOp]
  simp [Op.equal, Op.maxDepth, equalIn_func_nil w 9999 t ps rs vr f a c h]
theorem run_eql_nil_nil (w : World) (t : TypeId) (ps rs : Array TypeId) (vr : Bool) (h : P.underlying t = some (.func ps rs vr)) :
    (binOp .eql t .nilFunc .nilFunc).run P w = .ok (.bool true) w := by
  simp only [binOp]
  simp [Op.equal, Op.maxDepth, equalIn_nil_nil w 9999 t ps rs vr h]
theorem run_neq_nil_nil (w : World) (t : TypeId) (ps rs : Array TypeId) (vr : Bool) (h : P.underlying t = some (.func ps rs vr)) :
    (binOp .neq t .nilFunc .nilFunc).run P w = .ok (.bool false) w := by
  simp only [binOp]
  simp [Op.equal, Op.maxDepth, equalIn_nil_nil w 9999 t ps rs vr h]
end
end Go.Proofs.YtijifjiehldcaaaGreat
