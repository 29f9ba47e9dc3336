/-
  No cell of these rows narrows 'for every input' (looked for: loops, veiled, ifaces, maps, wideKeys, modest, calm, conditions, laid).
  DERIVED. THE GIVEN ROWS OF THIS SEAT. 5 by the template 'for every input the law returns true; each argument reads behind the call as it read before'; 0 by the template 'total and deterministic' (their statements: YtbcehmdidjoilaaGreatTotals.lean).
  GIVEN WITH THE SEED: the statements are not yours to turn. If you find one false, say at which input.
  Laid BY PROGRAM, IN A SANDBOX (cutbox-rows.mjs): the forced cells as the released guide's own fill.sh prints them over the translation 02579d3aa57525aa… (all of the seat's roots in one cut). By AI agents, Wed Nov 11 2026. No macro, syntax, notation, axiom, sorry.
-/
import Derived.Test.YtbcehmdidjoilaaGreatChecked
import GoSem.Claim
import GoSem.ClaimJoined
import GoSem.ClaimMapViews
import Derived.JoinedTies
import Derived.KernelRfl
namespace Go.Proofs.YtbcehmdidjoilaaGreat
/- THE CELL 'sum', in the pinned program and in every row, IS THE sha256 OF THE DUMP (.gsa) THAT YtbcehmdidjoilaaGreatProg.lean LOADS. Nothing in Lean hashes anything: it is a label: what it is worth is what the hold of that sum in a sandbox is worth. -/
noncomputable def Tryz.pinned : Pinned := { name := "ytbcehmdidjoilaagreat", sum := "02579d3aa57525aa608f74465ee831905ec73038e1722f0c499ab3b9627cc144", checked := Tryz.checked }
namespace Rows
def none {H : Type} : Left H := { results := [], args := [] }

/-- 'nestboxlaw20.MovesPlay': WHATEVER THE INPUT: true; the input reads as it did. -/
def movesPlaySpec : ChangeSpec := { name := "movesPlay", fn := fun _ => fun
  | [d1, d2] => { results := [.lit (.bool true)], args := [d1, d2] }
  | _ => none }
def movesPlayRow : OpenClaim := { program := "ytbcehmdidjoilaagreat", sum := "02579d3aa57525aa608f74465ee831905ec73038e1722f0c499ab3b9627cc144", func := "nestbox/nestboxlaw20.MovesPlay", spec := "movesPlay", inPlace := ["sync/atomic.StoreUint64", "sync/atomic.SwapUint64", "sync/atomic.LoadUint64", "sync/atomic.CompareAndSwapUint64"], unfollowed := true, recurses := true, apart := false }
def MovesPlaySaid : Prop := movesPlayRow.holds Tryz.pinned (OpenSpec.ofChange movesPlaySpec)

/-- ITS FALSE NEIGHBOUR: 'it returns false'. Refute it at one input. -/
def movesPlayWrong : ChangeSpec := { name := "movesPlay", fn := fun _ => fun
  | [d1, d2] => { results := [.lit (.bool false)], args := [d1, d2] }
  | _ => none }
def MovesPlayWrongFalsely : Prop := movesPlayRow.holds Tryz.pinned (OpenSpec.ofChange movesPlayWrong)

/-- 'nestboxlaw20.MovesVoid': WHATEVER THE INPUT: true; the input reads as it did. -/
def movesVoidSpec : ChangeSpec := { name := "movesVoid", fn := fun _ => fun
  | [d1, d2] => { results := [.lit (.bool true)], args := [d1, d2] }
  | _ => none }
def movesVoidRow : OpenClaim := { program := "ytbcehmdidjoilaagreat", sum := "02579d3aa57525aa608f74465ee831905ec73038e1722f0c499ab3b9627cc144", func := "nestbox/nestboxlaw20.MovesVoid", spec := "movesVoid", inPlace := ["sync/atomic.StoreUint64", "sync/atomic.SwapUint64", "sync/atomic.LoadUint64", "sync/atomic.CompareAndSwapUint64"], unfollowed := true, recurses := true, apart := false }
def MovesVoidSaid : Prop := movesVoidRow.holds Tryz.pinned (OpenSpec.ofChange movesVoidSpec)

/-- ITS FALSE NEIGHBOUR: 'it returns false'. Refute it at one input. -/
def movesVoidWrong : ChangeSpec := { name := "movesVoid", fn := fun _ => fun
  | [d1, d2] => { results := [.lit (.bool false)], args := [d1, d2] }
  | _ => none }
def MovesVoidWrongFalsely : Prop := movesVoidRow.holds Tryz.pinned (OpenSpec.ofChange movesVoidWrong)

/-- 'nestboxlaw21.TurnsPlay': WHATEVER THE INPUT: true; the input reads as it did. -/
def turnsPlaySpec : ChangeSpec := { name := "turnsPlay", fn := fun _ => fun
  | [d1, d2] => { results := [.lit (.bool true)], args := [d1, d2] }
  | _ => none }
def turnsPlayRow : OpenClaim := { program := "ytbcehmdidjoilaagreat", sum := "02579d3aa57525aa608f74465ee831905ec73038e1722f0c499ab3b9627cc144", func := "nestbox/nestboxlaw21.TurnsPlay", spec := "turnsPlay", inPlace := ["sync/atomic.StoreUint64", "sync/atomic.SwapUint64", "sync/atomic.LoadUint64", "sync/atomic.CompareAndSwapUint64"], unfollowed := true, recurses := true, apart := false }
def TurnsPlaySaid : Prop := turnsPlayRow.holds Tryz.pinned (OpenSpec.ofChange turnsPlaySpec)

/-- ITS FALSE NEIGHBOUR: 'it returns false'. Refute it at one input. -/
def turnsPlayWrong : ChangeSpec := { name := "turnsPlay", fn := fun _ => fun
  | [d1, d2] => { results := [.lit (.bool false)], args := [d1, d2] }
  | _ => none }
def TurnsPlayWrongFalsely : Prop := turnsPlayRow.holds Tryz.pinned (OpenSpec.ofChange turnsPlayWrong)

/-- 'nestboxlaw24.VictimsPlay': WHATEVER THE INPUT: true; the input reads as it did. -/
def victimsPlaySpec : ChangeSpec := { name := "victimsPlay", fn := fun _ => fun
  | [d1, d2] => { results := [.lit (.bool true)], args := [d1, d2] }
  | _ => none }
def victimsPlayRow : OpenClaim := { program := "ytbcehmdidjoilaagreat", sum := "02579d3aa57525aa608f74465ee831905ec73038e1722f0c499ab3b9627cc144", func := "nestbox/nestboxlaw24.VictimsPlay", spec := "victimsPlay", inPlace := ["sync/atomic.StoreUint64", "sync/atomic.LoadUint64", "sync/atomic.AddUint64", "sync/atomic.SwapUint64", "sync/atomic.CompareAndSwapUint64"], unfollowed := true, recurses := true, apart := false }
def VictimsPlaySaid : Prop := victimsPlayRow.holds Tryz.pinned (OpenSpec.ofChange victimsPlaySpec)

/-- ITS FALSE NEIGHBOUR: 'it returns false'. Refute it at one input. -/
def victimsPlayWrong : ChangeSpec := { name := "victimsPlay", fn := fun _ => fun
  | [d1, d2] => { results := [.lit (.bool false)], args := [d1, d2] }
  | _ => none }
def VictimsPlayWrongFalsely : Prop := victimsPlayRow.holds Tryz.pinned (OpenSpec.ofChange victimsPlayWrong)

/-- 'nestboxlaw24.VictimsVoid': WHATEVER THE INPUT: true; the input reads as it did. -/
def victimsVoidSpec : ChangeSpec := { name := "victimsVoid", fn := fun _ => fun
  | [d1, d2] => { results := [.lit (.bool true)], args := [d1, d2] }
  | _ => none }
def victimsVoidRow : OpenClaim := { program := "ytbcehmdidjoilaagreat", sum := "02579d3aa57525aa608f74465ee831905ec73038e1722f0c499ab3b9627cc144", func := "nestbox/nestboxlaw24.VictimsVoid", spec := "victimsVoid", inPlace := ["sync/atomic.StoreUint64", "sync/atomic.SwapUint64", "sync/atomic.LoadUint64", "sync/atomic.CompareAndSwapUint64", "sync/atomic.AddUint64"], unfollowed := true, recurses := true, apart := false }
def VictimsVoidSaid : Prop := victimsVoidRow.holds Tryz.pinned (OpenSpec.ofChange victimsVoidSpec)

/-- ITS FALSE NEIGHBOUR: 'it returns false'. Refute it at one input. -/
def victimsVoidWrong : ChangeSpec := { name := "victimsVoid", fn := fun _ => fun
  | [d1, d2] => { results := [.lit (.bool false)], args := [d1, d2] }
  | _ => none }
def VictimsVoidWrongFalsely : Prop := victimsVoidRow.holds Tryz.pinned (OpenSpec.ofChange victimsVoidWrong)

/- THE SECOND FORM. 'bulk': how many values and letters a reading holds, each counted each time it is reached (what is shared counts as often as it is met; a slice's spare places count too). A statement '..UptoSaid' is the law's where the arguments, and the package variables that the reading takes, are together of bulk at most 1048576: NARROWER than '..Said'. Prove '..Said' where nothing that the law and all that it calls make is longer than what came in: it says more and counts as full. Else prove '..UptoSaid'. A law counts once. -/
mutual
def uptoBulk {H : Type} : DataW H → Nat
  | .lit (.string bytes) => bytes.length + 1
  | .lit _ => 1
  | .nil => 1
  | .ptr d => uptoBulk d + 1
  | .slice elems spare => uptoBulkAll elems + uptoBulkAll spare + 1
  | .agg parts => uptoBulkAll parts + 1
  | .iface _ d => uptoBulk d + 1
  | .map entries => uptoBulkEntries entries + 1
  | .held _ => 1
def uptoBulkAll {H : Type} : List (DataW H) → Nat
  | [] => 0
  | d :: r => uptoBulk d + uptoBulkAll r
def uptoBulkEntries {H : Type} : List (Lit × DataW H) → Nat
  | [] => 0
  | x :: r => uptoBulkEntry x + uptoBulkEntries r
def uptoBulkEntry {H : Type} : Lit × DataW H → Nat
  | (.string bytes, d) => bytes.length + uptoBulk d + 1
  | (_, d) => uptoBulk d + 1
 end
def uptoSmall : (H : Type) → List (DataW H) → Bool := fun _ ds => decide (uptoBulkAll ds ≤ 1048576)
def OpenSpec.upto (s : _root_.Go.ChangeSpec) : _root_.Go.OpenSpec := { _root_.Go.OpenSpec.ofChange s with cond := some uptoSmall }

/-- 'nestboxlaw20.MovesPlay', WHERE WHAT IT READS IS OF BULK AT MOST 1048576: true; the input reads as it did. -/
def movesPlayUptoRow : OpenClaim := { program := "ytbcehmdidjoilaagreat", sum := "02579d3aa57525aa608f74465ee831905ec73038e1722f0c499ab3b9627cc144", func := "nestbox/nestboxlaw20.MovesPlay", spec := "movesPlay", inPlace := ["sync/atomic.StoreUint64", "sync/atomic.SwapUint64", "sync/atomic.LoadUint64", "sync/atomic.CompareAndSwapUint64"], unfollowed := true, recurses := true, apart := false, narrowed := true }
def MovesPlayUptoSaid : Prop := movesPlayUptoRow.holds Tryz.pinned (OpenSpec.upto movesPlaySpec)

/-- 'nestboxlaw20.MovesVoid', WHERE WHAT IT READS IS OF BULK AT MOST 1048576: true; the input reads as it did. -/
def movesVoidUptoRow : OpenClaim := { program := "ytbcehmdidjoilaagreat", sum := "02579d3aa57525aa608f74465ee831905ec73038e1722f0c499ab3b9627cc144", func := "nestbox/nestboxlaw20.MovesVoid", spec := "movesVoid", inPlace := ["sync/atomic.StoreUint64", "sync/atomic.SwapUint64", "sync/atomic.LoadUint64", "sync/atomic.CompareAndSwapUint64"], unfollowed := true, recurses := true, apart := false, narrowed := true }
def MovesVoidUptoSaid : Prop := movesVoidUptoRow.holds Tryz.pinned (OpenSpec.upto movesVoidSpec)

/-- 'nestboxlaw21.TurnsPlay', WHERE WHAT IT READS IS OF BULK AT MOST 1048576: true; the input reads as it did. -/
def turnsPlayUptoRow : OpenClaim := { program := "ytbcehmdidjoilaagreat", sum := "02579d3aa57525aa608f74465ee831905ec73038e1722f0c499ab3b9627cc144", func := "nestbox/nestboxlaw21.TurnsPlay", spec := "turnsPlay", inPlace := ["sync/atomic.StoreUint64", "sync/atomic.SwapUint64", "sync/atomic.LoadUint64", "sync/atomic.CompareAndSwapUint64"], unfollowed := true, recurses := true, apart := false, narrowed := true }
def TurnsPlayUptoSaid : Prop := turnsPlayUptoRow.holds Tryz.pinned (OpenSpec.upto turnsPlaySpec)

/-- 'nestboxlaw24.VictimsPlay', WHERE WHAT IT READS IS OF BULK AT MOST 1048576: true; the input reads as it did. -/
def victimsPlayUptoRow : OpenClaim := { program := "ytbcehmdidjoilaagreat", sum := "02579d3aa57525aa608f74465ee831905ec73038e1722f0c499ab3b9627cc144", func := "nestbox/nestboxlaw24.VictimsPlay", spec := "victimsPlay", inPlace := ["sync/atomic.StoreUint64", "sync/atomic.LoadUint64", "sync/atomic.AddUint64", "sync/atomic.SwapUint64", "sync/atomic.CompareAndSwapUint64"], unfollowed := true, recurses := true, apart := false, narrowed := true }
def VictimsPlayUptoSaid : Prop := victimsPlayUptoRow.holds Tryz.pinned (OpenSpec.upto victimsPlaySpec)

/-- 'nestboxlaw24.VictimsVoid', WHERE WHAT IT READS IS OF BULK AT MOST 1048576: true; the input reads as it did. -/
def victimsVoidUptoRow : OpenClaim := { program := "ytbcehmdidjoilaagreat", sum := "02579d3aa57525aa608f74465ee831905ec73038e1722f0c499ab3b9627cc144", func := "nestbox/nestboxlaw24.VictimsVoid", spec := "victimsVoid", inPlace := ["sync/atomic.StoreUint64", "sync/atomic.SwapUint64", "sync/atomic.LoadUint64", "sync/atomic.CompareAndSwapUint64", "sync/atomic.AddUint64"], unfollowed := true, recurses := true, apart := false, narrowed := true }
def VictimsVoidUptoSaid : Prop := victimsVoidUptoRow.holds Tryz.pinned (OpenSpec.upto victimsVoidSpec)

end Rows
end Go.Proofs.YtbcehmdidjoilaaGreat
