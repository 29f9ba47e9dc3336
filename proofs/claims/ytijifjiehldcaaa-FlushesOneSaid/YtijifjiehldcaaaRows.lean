/-
  No cell of these rows narrows 'for every input' (looked for: loops, veiled, ifaces, maps, wideKeys, modest, calm, conditions, laid).
  DERIVED. THE GIVEN ROWS OF THIS SEAT. 5 by the template 'for every input the law returns true; each argument reads behind the call as it read before'; 0 by the template 'total and deterministic' (their statements: YtijifjiehldcaaaTotals.lean).
  GIVEN WITH THE SEED: the statements are not yours to turn. If you find one false, say at which input.
  Laid BY PROGRAM, IN A SANDBOX (cutbox-rows.mjs): the forced cells as the released guide's own fill.sh prints them over the translation b87fb3e76cc6a992… (all of the seat's roots in one cut). By AI agents, Wed Nov 11 2026. No macro, syntax, notation, axiom, sorry.
-/
import Derived.Test.YtijifjiehldcaaaChecked
import GoSem.Claim
import GoSem.ClaimJoined
import GoSem.ClaimMapViews
import Derived.JoinedTies
import Derived.KernelRfl
namespace Go.Proofs.Ytijifjiehldcaaa
/- THE CELL 'sum', in the pinned program and in every row, IS THE sha256 OF THE DUMP (.gsa) THAT YtijifjiehldcaaaProg.lean LOADS. Nothing in Lean hashes anything: it is a label: what it is worth is what the hold of that sum in a sandbox is worth. -/
noncomputable def Try.pinned : Pinned := { name := "ytijifjiehldcaaa", sum := "b87fb3e76cc6a99218568592a453503e6c984fd96db2f6521a1622f5f444da2b", checked := Try.checked }
namespace Rows
def none {H : Type} : Left H := { results := [], args := [] }

/-- 'nestboxlaw22.RefsWord': WHATEVER THE INPUT: true; the input reads as it did. -/
def refsWordSpec : ChangeSpec := { name := "refsWord", fn := fun _ => fun
  | [d] => { results := [.lit (.bool true)], args := [d] }
  | _ => none }
def refsWordRow : OpenClaim := { program := "ytijifjiehldcaaa", sum := "b87fb3e76cc6a99218568592a453503e6c984fd96db2f6521a1622f5f444da2b", func := "nestbox/nestboxlaw22.RefsWord", spec := "refsWord", inPlace := ["sync/atomic.StoreUint64", "sync/atomic.LoadUint64", "sync/atomic.SwapUint64"], unfollowed := true, recurses := true, apart := false }
def RefsWordSaid : Prop := refsWordRow.holds Try.pinned (OpenSpec.ofChange refsWordSpec)

/-- ITS FALSE NEIGHBOUR: 'it returns false'. Refute it at one input. -/
def refsWordWrong : ChangeSpec := { name := "refsWord", fn := fun _ => fun
  | [d] => { results := [.lit (.bool false)], args := [d] }
  | _ => none }
def RefsWordWrongFalsely : Prop := refsWordRow.holds Try.pinned (OpenSpec.ofChange refsWordWrong)

/-- 'nestboxlaw22.RefsOnce': WHATEVER THE INPUT: true; the input reads as it did. -/
def refsOnceSpec : ChangeSpec := { name := "refsOnce", fn := fun _ => fun
  | [d1, d2, d3] => { results := [.lit (.bool true)], args := [d1, d2, d3] }
  | _ => none }
def refsOnceRow : OpenClaim := { program := "ytijifjiehldcaaa", sum := "b87fb3e76cc6a99218568592a453503e6c984fd96db2f6521a1622f5f444da2b", func := "nestbox/nestboxlaw22.RefsOnce", spec := "refsOnce", inPlace := ["sync/atomic.StoreUint64", "sync/atomic.LoadUint64", "sync/atomic.SwapUint64", "sync/atomic.CompareAndSwapUint64"], unfollowed := true, recurses := true, apart := false }
def RefsOnceSaid : Prop := refsOnceRow.holds Try.pinned (OpenSpec.ofChange refsOnceSpec)

/-- ITS FALSE NEIGHBOUR: 'it returns false'. Refute it at one input. -/
def refsOnceWrong : ChangeSpec := { name := "refsOnce", fn := fun _ => fun
  | [d1, d2, d3] => { results := [.lit (.bool false)], args := [d1, d2, d3] }
  | _ => none }
def RefsOnceWrongFalsely : Prop := refsOnceRow.holds Try.pinned (OpenSpec.ofChange refsOnceWrong)

/-- 'nestboxlaw22.RefsLess': WHATEVER THE INPUT: true; the input reads as it did. -/
def refsLessSpec : ChangeSpec := { name := "refsLess", fn := fun _ => fun
  | [d] => { results := [.lit (.bool true)], args := [d] }
  | _ => none }
def refsLessRow : OpenClaim := { program := "ytijifjiehldcaaa", sum := "b87fb3e76cc6a99218568592a453503e6c984fd96db2f6521a1622f5f444da2b", func := "nestbox/nestboxlaw22.RefsLess", spec := "refsLess", inPlace := ["sync/atomic.StoreUint64", "sync/atomic.LoadUint64", "sync/atomic.SwapUint64"], unfollowed := true, recurses := true, apart := false }
def RefsLessSaid : Prop := refsLessRow.holds Try.pinned (OpenSpec.ofChange refsLessSpec)

/-- ITS FALSE NEIGHBOUR: 'it returns false'. Refute it at one input. -/
def refsLessWrong : ChangeSpec := { name := "refsLess", fn := fun _ => fun
  | [d] => { results := [.lit (.bool false)], args := [d] }
  | _ => none }
def RefsLessWrongFalsely : Prop := refsLessRow.holds Try.pinned (OpenSpec.ofChange refsLessWrong)

/-- 'nestboxlaw22.RefsQuiet': WHATEVER THE INPUT: true; the input reads as it did. -/
def refsQuietSpec : ChangeSpec := { name := "refsQuiet", fn := fun _ => fun
  | [d1, d2, d3] => { results := [.lit (.bool true)], args := [d1, d2, d3] }
  | _ => none }
def refsQuietRow : OpenClaim := { program := "ytijifjiehldcaaa", sum := "b87fb3e76cc6a99218568592a453503e6c984fd96db2f6521a1622f5f444da2b", func := "nestbox/nestboxlaw22.RefsQuiet", spec := "refsQuiet", inPlace := ["sync/atomic.StoreUint64", "sync/atomic.SwapUint64", "sync/atomic.LoadUint64"], unfollowed := true, recurses := true, apart := false }
def RefsQuietSaid : Prop := refsQuietRow.holds Try.pinned (OpenSpec.ofChange refsQuietSpec)

/-- ITS FALSE NEIGHBOUR: 'it returns false'. Refute it at one input. -/
def refsQuietWrong : ChangeSpec := { name := "refsQuiet", fn := fun _ => fun
  | [d1, d2, d3] => { results := [.lit (.bool false)], args := [d1, d2, d3] }
  | _ => none }
def RefsQuietWrongFalsely : Prop := refsQuietRow.holds Try.pinned (OpenSpec.ofChange refsQuietWrong)

/-- 'nestboxlaw27.FlushesOne': WHATEVER THE INPUT: true; the input reads as it did. -/
def flushesOneSpec : ChangeSpec := { name := "flushesOne", fn := fun _ => fun
  | [d1, d2, d3] => { results := [.lit (.bool true)], args := [d1, d2, d3] }
  | _ => none }
def flushesOneRow : OpenClaim := { program := "ytijifjiehldcaaa", sum := "b87fb3e76cc6a99218568592a453503e6c984fd96db2f6521a1622f5f444da2b", func := "nestbox/nestboxlaw27.FlushesOne", spec := "flushesOne", inPlace := ["sync/atomic.StoreUint64", "sync/atomic.SwapUint64", "sync/atomic.LoadUint64", "sync/atomic.AddUint64", "sync/atomic.CompareAndSwapUint64"], unfollowed := true, recurses := true, apart := false }
def FlushesOneSaid : Prop := flushesOneRow.holds Try.pinned (OpenSpec.ofChange flushesOneSpec)

/-- ITS FALSE NEIGHBOUR: 'it returns false'. Refute it at one input. -/
def flushesOneWrong : ChangeSpec := { name := "flushesOne", fn := fun _ => fun
  | [d1, d2, d3] => { results := [.lit (.bool false)], args := [d1, d2, d3] }
  | _ => none }
def FlushesOneWrongFalsely : Prop := flushesOneRow.holds Try.pinned (OpenSpec.ofChange flushesOneWrong)

/- THE SECOND FORM. 'bulk': how many values and letters a reading holds, each counted each time it is reached (what is shared counts as often as it is met; a slice's spare places count too). A statement '..UptoSaid' is the law's where the arguments, and the package variables that the reading takes, are together of bulk at most 1048576: NARROWER than '..Said'. Prove '..Said' where nothing that the law and all that it calls make is longer than what came in: it says more and counts as full. Else prove '..UptoSaid'. A law counts once. -/
mutual
def uptoBulk {H : Type} : DataW H → Nat
  | .lit (.string bytes) => bytes.length + 1
  | .lit _ => 1
  | .nil => 1
  | .ptr d => uptoBulk d + 1
  | .slice elems spare => uptoBulkAll elems + uptoBulkAll spare + 1
  | .agg parts => uptoBulkAll parts + 1
  | .iface _ d => uptoBulk d + 1
  | .map entries => uptoBulkEntries entries + 1
  | .held _ => 1
def uptoBulkAll {H : Type} : List (DataW H) → Nat
  | [] => 0
  | d :: r => uptoBulk d + uptoBulkAll r
def uptoBulkEntries {H : Type} : List (Lit × DataW H) → Nat
  | [] => 0
  | x :: r => uptoBulkEntry x + uptoBulkEntries r
def uptoBulkEntry {H : Type} : Lit × DataW H → Nat
  | (.string bytes, d) => bytes.length + uptoBulk d + 1
  | (_, d) => uptoBulk d + 1
 end
def uptoSmall : (H : Type) → List (DataW H) → Bool := fun _ ds => decide (uptoBulkAll ds ≤ 1048576)
def OpenSpec.upto (s : _root_.Go.ChangeSpec) : _root_.Go.OpenSpec := { _root_.Go.OpenSpec.ofChange s with cond := some uptoSmall }

/-- 'nestboxlaw22.RefsWord', WHERE WHAT IT READS IS OF BULK AT MOST 1048576: true; the input reads as it did. -/
def refsWordUptoRow : OpenClaim := { program := "ytijifjiehldcaaa", sum := "b87fb3e76cc6a99218568592a453503e6c984fd96db2f6521a1622f5f444da2b", func := "nestbox/nestboxlaw22.RefsWord", spec := "refsWord", inPlace := ["sync/atomic.StoreUint64", "sync/atomic.LoadUint64", "sync/atomic.SwapUint64"], unfollowed := true, recurses := true, apart := false, narrowed := true }
def RefsWordUptoSaid : Prop := refsWordUptoRow.holds Try.pinned (OpenSpec.upto refsWordSpec)

/-- 'nestboxlaw22.RefsOnce', WHERE WHAT IT READS IS OF BULK AT MOST 1048576: true; the input reads as it did. -/
def refsOnceUptoRow : OpenClaim := { program := "ytijifjiehldcaaa", sum := "b87fb3e76cc6a99218568592a453503e6c984fd96db2f6521a1622f5f444da2b", func := "nestbox/nestboxlaw22.RefsOnce", spec := "refsOnce", inPlace := ["sync/atomic.StoreUint64", "sync/atomic.LoadUint64", "sync/atomic.SwapUint64", "sync/atomic.CompareAndSwapUint64"], unfollowed := true, recurses := true, apart := false, narrowed := true }
def RefsOnceUptoSaid : Prop := refsOnceUptoRow.holds Try.pinned (OpenSpec.upto refsOnceSpec)

/-- 'nestboxlaw22.RefsLess', WHERE WHAT IT READS IS OF BULK AT MOST 1048576: true; the input reads as it did. -/
def refsLessUptoRow : OpenClaim := { program := "ytijifjiehldcaaa", sum := "b87fb3e76cc6a99218568592a453503e6c984fd96db2f6521a1622f5f444da2b", func := "nestbox/nestboxlaw22.RefsLess", spec := "refsLess", inPlace := ["sync/atomic.StoreUint64", "sync/atomic.LoadUint64", "sync/atomic.SwapUint64"], unfollowed := true, recurses := true, apart := false, narrowed := true }
def RefsLessUptoSaid : Prop := refsLessUptoRow.holds Try.pinned (OpenSpec.upto refsLessSpec)

/-- 'nestboxlaw22.RefsQuiet', WHERE WHAT IT READS IS OF BULK AT MOST 1048576: true; the input reads as it did. -/
def refsQuietUptoRow : OpenClaim := { program := "ytijifjiehldcaaa", sum := "b87fb3e76cc6a99218568592a453503e6c984fd96db2f6521a1622f5f444da2b", func := "nestbox/nestboxlaw22.RefsQuiet", spec := "refsQuiet", inPlace := ["sync/atomic.StoreUint64", "sync/atomic.SwapUint64", "sync/atomic.LoadUint64"], unfollowed := true, recurses := true, apart := false, narrowed := true }
def RefsQuietUptoSaid : Prop := refsQuietUptoRow.holds Try.pinned (OpenSpec.upto refsQuietSpec)

/-- 'nestboxlaw27.FlushesOne', WHERE WHAT IT READS IS OF BULK AT MOST 1048576: true; the input reads as it did. -/
def flushesOneUptoRow : OpenClaim := { program := "ytijifjiehldcaaa", sum := "b87fb3e76cc6a99218568592a453503e6c984fd96db2f6521a1622f5f444da2b", func := "nestbox/nestboxlaw27.FlushesOne", spec := "flushesOne", inPlace := ["sync/atomic.StoreUint64", "sync/atomic.SwapUint64", "sync/atomic.LoadUint64", "sync/atomic.AddUint64", "sync/atomic.CompareAndSwapUint64"], unfollowed := true, recurses := true, apart := false, narrowed := true }
def FlushesOneUptoSaid : Prop := flushesOneUptoRow.holds Try.pinned (OpenSpec.upto flushesOneSpec)

end Rows
end Go.Proofs.Ytijifjiehldcaaa
