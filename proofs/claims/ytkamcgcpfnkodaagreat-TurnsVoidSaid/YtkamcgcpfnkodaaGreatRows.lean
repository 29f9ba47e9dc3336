/-
  No cell of these rows narrows 'for every input' (looked for: loops, veiled, ifaces, maps, wideKeys, modest, calm, conditions, laid).
  DERIVED. THE GIVEN ROWS OF THIS SEAT. 3 by the template 'for every input the law returns true; each argument reads behind the call as it read before'; 0 by the template 'total and deterministic' (their statements: YtkamcgcpfnkodaaGreatTotals.lean).
  GIVEN WITH THE SEED: the statements are not yours to turn. If you find one false, say at which input.
  Laid BY PROGRAM, IN A SANDBOX (cutbox-rows.mjs): the forced cells as the released guide's own fill.sh prints them over the translation e928a529e3574b65… (all of the seat's roots in one cut). By AI agents, Wed Nov 11 2026. No macro, syntax, notation, axiom, sorry.
-/
import Derived.Test.YtkamcgcpfnkodaaGreatChecked
import GoSem.Claim
import GoSem.ClaimJoined
import GoSem.ClaimMapViews
import Derived.JoinedTies
import Derived.KernelRfl
namespace Go.Proofs.YtkamcgcpfnkodaaGreat
/- THE CELL 'sum', in the pinned program and in every row, IS THE sha256 OF THE DUMP (.gsa) THAT YtkamcgcpfnkodaaGreatProg.lean LOADS. Nothing in Lean hashes anything: it is a label: what it is worth is what the hold of that sum in a sandbox is worth. -/
noncomputable def Tryz.pinned : Pinned := { name := "ytkamcgcpfnkodaagreat", sum := "e928a529e3574b65634a69d6f6082a47d316f0f92f8e1a23805ceab60bef2e3a", checked := Tryz.checked }
namespace Rows
def none {H : Type} : Left H := { results := [], args := [] }

/-- 'nestboxlaw21.TurnsNone': WHATEVER THE INPUT: true; the input reads as it did. -/
def turnsNoneSpec : ChangeSpec := { name := "turnsNone", fn := fun _ => fun
  | [d] => { results := [.lit (.bool true)], args := [d] }
  | _ => none }
def turnsNoneRow : OpenClaim := { program := "ytkamcgcpfnkodaagreat", sum := "e928a529e3574b65634a69d6f6082a47d316f0f92f8e1a23805ceab60bef2e3a", func := "nestbox/nestboxlaw21.TurnsNone", spec := "turnsNone", inPlace := ["sync/atomic.StoreUint64", "sync/atomic.SwapUint64", "sync/atomic.LoadUint64", "sync/atomic.CompareAndSwapUint64"], unfollowed := true, recurses := true, apart := false }
def TurnsNoneSaid : Prop := turnsNoneRow.holds Tryz.pinned (OpenSpec.ofChange turnsNoneSpec)

/-- ITS FALSE NEIGHBOUR: 'it returns false'. Refute it at one input. -/
def turnsNoneWrong : ChangeSpec := { name := "turnsNone", fn := fun _ => fun
  | [d] => { results := [.lit (.bool false)], args := [d] }
  | _ => none }
def TurnsNoneWrongFalsely : Prop := turnsNoneRow.holds Tryz.pinned (OpenSpec.ofChange turnsNoneWrong)

/-- 'nestboxlaw20.MovesVoid': WHATEVER THE INPUT: true; the input reads as it did. -/
def movesVoidSpec : ChangeSpec := { name := "movesVoid", fn := fun _ => fun
  | [d1, d2] => { results := [.lit (.bool true)], args := [d1, d2] }
  | _ => none }
def movesVoidRow : OpenClaim := { program := "ytkamcgcpfnkodaagreat", sum := "e928a529e3574b65634a69d6f6082a47d316f0f92f8e1a23805ceab60bef2e3a", func := "nestbox/nestboxlaw20.MovesVoid", spec := "movesVoid", inPlace := ["sync/atomic.StoreUint64", "sync/atomic.SwapUint64", "sync/atomic.LoadUint64", "sync/atomic.CompareAndSwapUint64"], unfollowed := true, recurses := true, apart := false }
def MovesVoidSaid : Prop := movesVoidRow.holds Tryz.pinned (OpenSpec.ofChange movesVoidSpec)

/-- ITS FALSE NEIGHBOUR: 'it returns false'. Refute it at one input. -/
def movesVoidWrong : ChangeSpec := { name := "movesVoid", fn := fun _ => fun
  | [d1, d2] => { results := [.lit (.bool false)], args := [d1, d2] }
  | _ => none }
def MovesVoidWrongFalsely : Prop := movesVoidRow.holds Tryz.pinned (OpenSpec.ofChange movesVoidWrong)

/-- 'nestboxlaw21.TurnsVoid': WHATEVER THE INPUT: true; the input reads as it did. -/
def turnsVoidSpec : ChangeSpec := { name := "turnsVoid", fn := fun _ => fun
  | [d] => { results := [.lit (.bool true)], args := [d] }
  | _ => none }
def turnsVoidRow : OpenClaim := { program := "ytkamcgcpfnkodaagreat", sum := "e928a529e3574b65634a69d6f6082a47d316f0f92f8e1a23805ceab60bef2e3a", func := "nestbox/nestboxlaw21.TurnsVoid", spec := "turnsVoid", inPlace := ["sync/atomic.StoreUint64", "sync/atomic.SwapUint64", "sync/atomic.LoadUint64", "sync/atomic.CompareAndSwapUint64"], unfollowed := true, recurses := true, apart := false }
def TurnsVoidSaid : Prop := turnsVoidRow.holds Tryz.pinned (OpenSpec.ofChange turnsVoidSpec)

/-- ITS FALSE NEIGHBOUR: 'it returns false'. Refute it at one input. -/
def turnsVoidWrong : ChangeSpec := { name := "turnsVoid", fn := fun _ => fun
  | [d] => { results := [.lit (.bool false)], args := [d] }
  | _ => none }
def TurnsVoidWrongFalsely : Prop := turnsVoidRow.holds Tryz.pinned (OpenSpec.ofChange turnsVoidWrong)

/- THE SECOND FORM. 'bulk': how many values and letters a reading holds, each counted each time it is reached (what is shared counts as often as it is met; a slice's spare places count too). A statement '..UptoSaid' is the law's where the arguments, and the package variables that the reading takes, are together of bulk at most 1048576: NARROWER than '..Said'. Prove '..Said' where nothing that the law and all that it calls make is longer than what came in: it says more and counts as full. Else prove '..UptoSaid'. A law counts once. -/
mutual
def uptoBulk {H : Type} : DataW H → Nat
  | .lit (.string bytes) => bytes.length + 1
  | .lit _ => 1
  | .nil => 1
  | .ptr d => uptoBulk d + 1
  | .slice elems spare => uptoBulkAll elems + uptoBulkAll spare + 1
  | .agg parts => uptoBulkAll parts + 1
  | .iface _ d => uptoBulk d + 1
  | .map entries => uptoBulkEntries entries + 1
  | .held _ => 1
def uptoBulkAll {H : Type} : List (DataW H) → Nat
  | [] => 0
  | d :: r => uptoBulk d + uptoBulkAll r
def uptoBulkEntries {H : Type} : List (Lit × DataW H) → Nat
  | [] => 0
  | x :: r => uptoBulkEntry x + uptoBulkEntries r
def uptoBulkEntry {H : Type} : Lit × DataW H → Nat
  | (.string bytes, d) => bytes.length + uptoBulk d + 1
  | (_, d) => uptoBulk d + 1
 end
def uptoSmall : (H : Type) → List (DataW H) → Bool := fun _ ds => decide (uptoBulkAll ds ≤ 1048576)
def OpenSpec.upto (s : _root_.Go.ChangeSpec) : _root_.Go.OpenSpec := { _root_.Go.OpenSpec.ofChange s with cond := some uptoSmall }

/-- 'nestboxlaw21.TurnsNone', WHERE WHAT IT READS IS OF BULK AT MOST 1048576: true; the input reads as it did. -/
def turnsNoneUptoRow : OpenClaim := { program := "ytkamcgcpfnkodaagreat", sum := "e928a529e3574b65634a69d6f6082a47d316f0f92f8e1a23805ceab60bef2e3a", func := "nestbox/nestboxlaw21.TurnsNone", spec := "turnsNone", inPlace := ["sync/atomic.StoreUint64", "sync/atomic.SwapUint64", "sync/atomic.LoadUint64", "sync/atomic.CompareAndSwapUint64"], unfollowed := true, recurses := true, apart := false, narrowed := true }
def TurnsNoneUptoSaid : Prop := turnsNoneUptoRow.holds Tryz.pinned (OpenSpec.upto turnsNoneSpec)

/-- 'nestboxlaw20.MovesVoid', WHERE WHAT IT READS IS OF BULK AT MOST 1048576: true; the input reads as it did. -/
def movesVoidUptoRow : OpenClaim := { program := "ytkamcgcpfnkodaagreat", sum := "e928a529e3574b65634a69d6f6082a47d316f0f92f8e1a23805ceab60bef2e3a", func := "nestbox/nestboxlaw20.MovesVoid", spec := "movesVoid", inPlace := ["sync/atomic.StoreUint64", "sync/atomic.SwapUint64", "sync/atomic.LoadUint64", "sync/atomic.CompareAndSwapUint64"], unfollowed := true, recurses := true, apart := false, narrowed := true }
def MovesVoidUptoSaid : Prop := movesVoidUptoRow.holds Tryz.pinned (OpenSpec.upto movesVoidSpec)

/-- 'nestboxlaw21.TurnsVoid', WHERE WHAT IT READS IS OF BULK AT MOST 1048576: true; the input reads as it did. -/
def turnsVoidUptoRow : OpenClaim := { program := "ytkamcgcpfnkodaagreat", sum := "e928a529e3574b65634a69d6f6082a47d316f0f92f8e1a23805ceab60bef2e3a", func := "nestbox/nestboxlaw21.TurnsVoid", spec := "turnsVoid", inPlace := ["sync/atomic.StoreUint64", "sync/atomic.SwapUint64", "sync/atomic.LoadUint64", "sync/atomic.CompareAndSwapUint64"], unfollowed := true, recurses := true, apart := false, narrowed := true }
def TurnsVoidUptoSaid : Prop := turnsVoidUptoRow.holds Tryz.pinned (OpenSpec.upto turnsVoidSpec)

end Rows
end Go.Proofs.YtkamcgcpfnkodaaGreat
