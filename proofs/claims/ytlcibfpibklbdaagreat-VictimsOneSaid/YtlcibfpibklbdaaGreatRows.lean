/-
  No cell of these rows narrows 'for every input' (looked for: loops, veiled, ifaces, maps, wideKeys, modest, calm, conditions, laid).
  DERIVED. THE GIVEN ROWS OF THIS SEAT. 10 by the template 'for every input the law returns true; each argument reads behind the call as it read before'; 0 by the template 'total and deterministic' (their statements: YtlcibfpibklbdaaGreatTotals.lean).
  GIVEN WITH THE SEED: the statements are not yours to turn. If you find one false, say at which input.
  Laid BY PROGRAM, IN A SANDBOX (cutbox-rows.mjs): the forced cells as the released guide's own fill.sh prints them over the translation 8618d6e3dcf24b29… (all of the seat's roots in one cut). By AI agents, Wed Nov 11 2026. No macro, syntax, notation, axiom, sorry.
-/
import Derived.Test.YtlcibfpibklbdaaGreatChecked
import GoSem.Claim
import GoSem.ClaimJoined
import GoSem.ClaimMapViews
import Derived.JoinedTies
import Derived.KernelRfl
namespace Go.Proofs.YtlcibfpibklbdaaGreat
/- THE CELL 'sum', in the pinned program and in every row, IS THE sha256 OF THE DUMP (.gsa) THAT YtlcibfpibklbdaaGreatProg.lean LOADS. Nothing in Lean hashes anything: it is a label: what it is worth is what the hold of that sum in a sandbox is worth. -/
noncomputable def Tryz.pinned : Pinned := { name := "ytlcibfpibklbdaagreat", sum := "8618d6e3dcf24b29867d89df10241e2412afd580d2714b7e2c39ba8519cea908", checked := Tryz.checked }
namespace Rows
def none {H : Type} : Left H := { results := [], args := [] }

/-- 'nestboxlaw23.HandsTurns': WHATEVER THE INPUT: true; the input reads as it did. -/
def handsTurnsSpec : ChangeSpec := { name := "handsTurns", fn := fun _ => fun
  | [d1, d2] => { results := [.lit (.bool true)], args := [d1, d2] }
  | _ => none }
def handsTurnsRow : OpenClaim := { program := "ytlcibfpibklbdaagreat", sum := "8618d6e3dcf24b29867d89df10241e2412afd580d2714b7e2c39ba8519cea908", func := "nestbox/nestboxlaw23.HandsTurns", spec := "handsTurns", inPlace := ["sync/atomic.StoreUint64", "sync/atomic.SwapUint64", "sync/atomic.LoadUint64"], unfollowed := true, recurses := true, apart := false }
def HandsTurnsSaid : Prop := handsTurnsRow.holds Tryz.pinned (OpenSpec.ofChange handsTurnsSpec)

/-- ITS FALSE NEIGHBOUR: 'it returns false'. Refute it at one input. -/
def handsTurnsWrong : ChangeSpec := { name := "handsTurns", fn := fun _ => fun
  | [d1, d2] => { results := [.lit (.bool false)], args := [d1, d2] }
  | _ => none }
def HandsTurnsWrongFalsely : Prop := handsTurnsRow.holds Tryz.pinned (OpenSpec.ofChange handsTurnsWrong)

/-- 'nestboxlaw23.HandsFirst': WHATEVER THE INPUT: true; the input reads as it did. -/
def handsFirstSpec : ChangeSpec := { name := "handsFirst", fn := fun _ => fun
  | [d1, d2, d3] => { results := [.lit (.bool true)], args := [d1, d2, d3] }
  | _ => none }
def handsFirstRow : OpenClaim := { program := "ytlcibfpibklbdaagreat", sum := "8618d6e3dcf24b29867d89df10241e2412afd580d2714b7e2c39ba8519cea908", func := "nestbox/nestboxlaw23.HandsFirst", spec := "handsFirst", inPlace := ["sync/atomic.StoreUint64", "sync/atomic.SwapUint64", "sync/atomic.LoadUint64"], unfollowed := true, recurses := true, apart := false }
def HandsFirstSaid : Prop := handsFirstRow.holds Tryz.pinned (OpenSpec.ofChange handsFirstSpec)

/-- ITS FALSE NEIGHBOUR: 'it returns false'. Refute it at one input. -/
def handsFirstWrong : ChangeSpec := { name := "handsFirst", fn := fun _ => fun
  | [d1, d2, d3] => { results := [.lit (.bool false)], args := [d1, d2, d3] }
  | _ => none }
def HandsFirstWrongFalsely : Prop := handsFirstRow.holds Tryz.pinned (OpenSpec.ofChange handsFirstWrong)

/-- 'nestboxlaw23.HandsReaders': WHATEVER THE INPUT: true; the input reads as it did. -/
def handsReadersSpec : ChangeSpec := { name := "handsReaders", fn := fun _ => fun
  | [d1, d2, d3] => { results := [.lit (.bool true)], args := [d1, d2, d3] }
  | _ => none }
def handsReadersRow : OpenClaim := { program := "ytlcibfpibklbdaagreat", sum := "8618d6e3dcf24b29867d89df10241e2412afd580d2714b7e2c39ba8519cea908", func := "nestbox/nestboxlaw23.HandsReaders", spec := "handsReaders", inPlace := ["sync/atomic.StoreUint64", "sync/atomic.SwapUint64", "sync/atomic.LoadUint64", "sync/atomic.AddUint64", "sync/atomic.CompareAndSwapUint64"], unfollowed := true, recurses := true, apart := false }
def HandsReadersSaid : Prop := handsReadersRow.holds Tryz.pinned (OpenSpec.ofChange handsReadersSpec)

/-- ITS FALSE NEIGHBOUR: 'it returns false'. Refute it at one input. -/
def handsReadersWrong : ChangeSpec := { name := "handsReaders", fn := fun _ => fun
  | [d1, d2, d3] => { results := [.lit (.bool false)], args := [d1, d2, d3] }
  | _ => none }
def HandsReadersWrongFalsely : Prop := handsReadersRow.holds Tryz.pinned (OpenSpec.ofChange handsReadersWrong)

/-- 'nestboxlaw24.VictimsFree': WHATEVER THE INPUT: true; the input reads as it did. -/
def victimsFreeSpec : ChangeSpec := { name := "victimsFree", fn := fun _ => fun
  | [d1, d2] => { results := [.lit (.bool true)], args := [d1, d2] }
  | _ => none }
def victimsFreeRow : OpenClaim := { program := "ytlcibfpibklbdaagreat", sum := "8618d6e3dcf24b29867d89df10241e2412afd580d2714b7e2c39ba8519cea908", func := "nestbox/nestboxlaw24.VictimsFree", spec := "victimsFree", inPlace := ["sync/atomic.StoreUint64", "sync/atomic.LoadUint64", "sync/atomic.AddUint64", "sync/atomic.SwapUint64"], unfollowed := true, recurses := true, apart := false }
def VictimsFreeSaid : Prop := victimsFreeRow.holds Tryz.pinned (OpenSpec.ofChange victimsFreeSpec)

/-- ITS FALSE NEIGHBOUR: 'it returns false'. Refute it at one input. -/
def victimsFreeWrong : ChangeSpec := { name := "victimsFree", fn := fun _ => fun
  | [d1, d2] => { results := [.lit (.bool false)], args := [d1, d2] }
  | _ => none }
def VictimsFreeWrongFalsely : Prop := victimsFreeRow.holds Tryz.pinned (OpenSpec.ofChange victimsFreeWrong)

/-- 'nestboxlaw24.VictimsOne': WHATEVER THE INPUT: true; the input reads as it did. -/
def victimsOneSpec : ChangeSpec := { name := "victimsOne", fn := fun _ => fun
  | [d1, d2] => { results := [.lit (.bool true)], args := [d1, d2] }
  | _ => none }
def victimsOneRow : OpenClaim := { program := "ytlcibfpibklbdaagreat", sum := "8618d6e3dcf24b29867d89df10241e2412afd580d2714b7e2c39ba8519cea908", func := "nestbox/nestboxlaw24.VictimsOne", spec := "victimsOne", inPlace := ["sync/atomic.StoreUint64", "sync/atomic.LoadUint64", "sync/atomic.AddUint64", "sync/atomic.SwapUint64"], unfollowed := true, recurses := true, apart := false }
def VictimsOneSaid : Prop := victimsOneRow.holds Tryz.pinned (OpenSpec.ofChange victimsOneSpec)

/-- ITS FALSE NEIGHBOUR: 'it returns false'. Refute it at one input. -/
def victimsOneWrong : ChangeSpec := { name := "victimsOne", fn := fun _ => fun
  | [d1, d2] => { results := [.lit (.bool false)], args := [d1, d2] }
  | _ => none }
def VictimsOneWrongFalsely : Prop := victimsOneRow.holds Tryz.pinned (OpenSpec.ofChange victimsOneWrong)

/-- 'nestboxlaw20.MovesVoid': WHATEVER THE INPUT: true; the input reads as it did. -/
def movesVoidSpec : ChangeSpec := { name := "movesVoid", fn := fun _ => fun
  | [d1, d2] => { results := [.lit (.bool true)], args := [d1, d2] }
  | _ => none }
def movesVoidRow : OpenClaim := { program := "ytlcibfpibklbdaagreat", sum := "8618d6e3dcf24b29867d89df10241e2412afd580d2714b7e2c39ba8519cea908", func := "nestbox/nestboxlaw20.MovesVoid", spec := "movesVoid", inPlace := ["sync/atomic.StoreUint64", "sync/atomic.SwapUint64", "sync/atomic.LoadUint64", "sync/atomic.CompareAndSwapUint64"], unfollowed := true, recurses := true, apart := false }
def MovesVoidSaid : Prop := movesVoidRow.holds Tryz.pinned (OpenSpec.ofChange movesVoidSpec)

/-- ITS FALSE NEIGHBOUR: 'it returns false'. Refute it at one input. -/
def movesVoidWrong : ChangeSpec := { name := "movesVoid", fn := fun _ => fun
  | [d1, d2] => { results := [.lit (.bool false)], args := [d1, d2] }
  | _ => none }
def MovesVoidWrongFalsely : Prop := movesVoidRow.holds Tryz.pinned (OpenSpec.ofChange movesVoidWrong)

/-- 'nestboxlaw23.HandsPlay': WHATEVER THE INPUT: true; the input reads as it did. -/
def handsPlaySpec : ChangeSpec := { name := "handsPlay", fn := fun _ => fun
  | [d1, d2] => { results := [.lit (.bool true)], args := [d1, d2] }
  | _ => none }
def handsPlayRow : OpenClaim := { program := "ytlcibfpibklbdaagreat", sum := "8618d6e3dcf24b29867d89df10241e2412afd580d2714b7e2c39ba8519cea908", func := "nestbox/nestboxlaw23.HandsPlay", spec := "handsPlay", inPlace := ["sync/atomic.StoreUint64", "sync/atomic.SwapUint64", "sync/atomic.LoadUint64", "sync/atomic.CompareAndSwapUint64", "sync/atomic.AddUint64"], unfollowed := true, recurses := true, apart := false }
def HandsPlaySaid : Prop := handsPlayRow.holds Tryz.pinned (OpenSpec.ofChange handsPlaySpec)

/-- ITS FALSE NEIGHBOUR: 'it returns false'. Refute it at one input. -/
def handsPlayWrong : ChangeSpec := { name := "handsPlay", fn := fun _ => fun
  | [d1, d2] => { results := [.lit (.bool false)], args := [d1, d2] }
  | _ => none }
def HandsPlayWrongFalsely : Prop := handsPlayRow.holds Tryz.pinned (OpenSpec.ofChange handsPlayWrong)

/-- 'nestboxlaw23.HandsVoid': WHATEVER THE INPUT: true; the input reads as it did. -/
def handsVoidSpec : ChangeSpec := { name := "handsVoid", fn := fun _ => fun
  | [d] => { results := [.lit (.bool true)], args := [d] }
  | _ => none }
def handsVoidRow : OpenClaim := { program := "ytlcibfpibklbdaagreat", sum := "8618d6e3dcf24b29867d89df10241e2412afd580d2714b7e2c39ba8519cea908", func := "nestbox/nestboxlaw23.HandsVoid", spec := "handsVoid", inPlace := ["sync/atomic.StoreUint64", "sync/atomic.SwapUint64", "sync/atomic.LoadUint64", "sync/atomic.CompareAndSwapUint64", "sync/atomic.AddUint64"], unfollowed := true, recurses := true, apart := false }
def HandsVoidSaid : Prop := handsVoidRow.holds Tryz.pinned (OpenSpec.ofChange handsVoidSpec)

/-- ITS FALSE NEIGHBOUR: 'it returns false'. Refute it at one input. -/
def handsVoidWrong : ChangeSpec := { name := "handsVoid", fn := fun _ => fun
  | [d] => { results := [.lit (.bool false)], args := [d] }
  | _ => none }
def HandsVoidWrongFalsely : Prop := handsVoidRow.holds Tryz.pinned (OpenSpec.ofChange handsVoidWrong)

/-- 'nestboxlaw24.VictimsPlay': WHATEVER THE INPUT: true; the input reads as it did. -/
def victimsPlaySpec : ChangeSpec := { name := "victimsPlay", fn := fun _ => fun
  | [d1, d2] => { results := [.lit (.bool true)], args := [d1, d2] }
  | _ => none }
def victimsPlayRow : OpenClaim := { program := "ytlcibfpibklbdaagreat", sum := "8618d6e3dcf24b29867d89df10241e2412afd580d2714b7e2c39ba8519cea908", func := "nestbox/nestboxlaw24.VictimsPlay", spec := "victimsPlay", inPlace := ["sync/atomic.StoreUint64", "sync/atomic.LoadUint64", "sync/atomic.AddUint64", "sync/atomic.SwapUint64", "sync/atomic.CompareAndSwapUint64"], unfollowed := true, recurses := true, apart := false }
def VictimsPlaySaid : Prop := victimsPlayRow.holds Tryz.pinned (OpenSpec.ofChange victimsPlaySpec)

/-- ITS FALSE NEIGHBOUR: 'it returns false'. Refute it at one input. -/
def victimsPlayWrong : ChangeSpec := { name := "victimsPlay", fn := fun _ => fun
  | [d1, d2] => { results := [.lit (.bool false)], args := [d1, d2] }
  | _ => none }
def VictimsPlayWrongFalsely : Prop := victimsPlayRow.holds Tryz.pinned (OpenSpec.ofChange victimsPlayWrong)

/-- 'nestboxlaw24.VictimsVoid': WHATEVER THE INPUT: true; the input reads as it did. -/
def victimsVoidSpec : ChangeSpec := { name := "victimsVoid", fn := fun _ => fun
  | [d1, d2] => { results := [.lit (.bool true)], args := [d1, d2] }
  | _ => none }
def victimsVoidRow : OpenClaim := { program := "ytlcibfpibklbdaagreat", sum := "8618d6e3dcf24b29867d89df10241e2412afd580d2714b7e2c39ba8519cea908", func := "nestbox/nestboxlaw24.VictimsVoid", spec := "victimsVoid", inPlace := ["sync/atomic.StoreUint64", "sync/atomic.SwapUint64", "sync/atomic.LoadUint64", "sync/atomic.CompareAndSwapUint64", "sync/atomic.AddUint64"], unfollowed := true, recurses := true, apart := false }
def VictimsVoidSaid : Prop := victimsVoidRow.holds Tryz.pinned (OpenSpec.ofChange victimsVoidSpec)

/-- ITS FALSE NEIGHBOUR: 'it returns false'. Refute it at one input. -/
def victimsVoidWrong : ChangeSpec := { name := "victimsVoid", fn := fun _ => fun
  | [d1, d2] => { results := [.lit (.bool false)], args := [d1, d2] }
  | _ => none }
def VictimsVoidWrongFalsely : Prop := victimsVoidRow.holds Tryz.pinned (OpenSpec.ofChange victimsVoidWrong)

/- THE SECOND FORM. 'bulk': how many values and letters a reading holds, each counted each time it is reached (what is shared counts as often as it is met; a slice's spare places count too). A statement '..UptoSaid' is the law's where the arguments, and the package variables that the reading takes, are together of bulk at most 1048576: NARROWER than '..Said'. Prove '..Said' where nothing that the law and all that it calls make is longer than what came in: it says more and counts as full. Else prove '..UptoSaid'. A law counts once. -/
mutual
def uptoBulk {H : Type} : DataW H → Nat
  | .lit (.string bytes) => bytes.length + 1
  | .lit _ => 1
  | .nil => 1
  | .ptr d => uptoBulk d + 1
  | .slice elems spare => uptoBulkAll elems + uptoBulkAll spare + 1
  | .agg parts => uptoBulkAll parts + 1
  | .iface _ d => uptoBulk d + 1
  | .map entries => uptoBulkEntries entries + 1
  | .held _ => 1
def uptoBulkAll {H : Type} : List (DataW H) → Nat
  | [] => 0
  | d :: r => uptoBulk d + uptoBulkAll r
def uptoBulkEntries {H : Type} : List (Lit × DataW H) → Nat
  | [] => 0
  | x :: r => uptoBulkEntry x + uptoBulkEntries r
def uptoBulkEntry {H : Type} : Lit × DataW H → Nat
  | (.string bytes, d) => bytes.length + uptoBulk d + 1
  | (_, d) => uptoBulk d + 1
 end
def uptoSmall : (H : Type) → List (DataW H) → Bool := fun _ ds => decide (uptoBulkAll ds ≤ 1048576)
def OpenSpec.upto (s : _root_.Go.ChangeSpec) : _root_.Go.OpenSpec := { _root_.Go.OpenSpec.ofChange s with cond := some uptoSmall }

/-- 'nestboxlaw23.HandsTurns', WHERE WHAT IT READS IS OF BULK AT MOST 1048576: true; the input reads as it did. -/
def handsTurnsUptoRow : OpenClaim := { program := "ytlcibfpibklbdaagreat", sum := "8618d6e3dcf24b29867d89df10241e2412afd580d2714b7e2c39ba8519cea908", func := "nestbox/nestboxlaw23.HandsTurns", spec := "handsTurns", inPlace := ["sync/atomic.StoreUint64", "sync/atomic.SwapUint64", "sync/atomic.LoadUint64"], unfollowed := true, recurses := true, apart := false, narrowed := true }
def HandsTurnsUptoSaid : Prop := handsTurnsUptoRow.holds Tryz.pinned (OpenSpec.upto handsTurnsSpec)

/-- 'nestboxlaw23.HandsFirst', WHERE WHAT IT READS IS OF BULK AT MOST 1048576: true; the input reads as it did. -/
def handsFirstUptoRow : OpenClaim := { program := "ytlcibfpibklbdaagreat", sum := "8618d6e3dcf24b29867d89df10241e2412afd580d2714b7e2c39ba8519cea908", func := "nestbox/nestboxlaw23.HandsFirst", spec := "handsFirst", inPlace := ["sync/atomic.StoreUint64", "sync/atomic.SwapUint64", "sync/atomic.LoadUint64"], unfollowed := true, recurses := true, apart := false, narrowed := true }
def HandsFirstUptoSaid : Prop := handsFirstUptoRow.holds Tryz.pinned (OpenSpec.upto handsFirstSpec)

/-- 'nestboxlaw23.HandsReaders', WHERE WHAT IT READS IS OF BULK AT MOST 1048576: true; the input reads as it did. -/
def handsReadersUptoRow : OpenClaim := { program := "ytlcibfpibklbdaagreat", sum := "8618d6e3dcf24b29867d89df10241e2412afd580d2714b7e2c39ba8519cea908", func := "nestbox/nestboxlaw23.HandsReaders", spec := "handsReaders", inPlace := ["sync/atomic.StoreUint64", "sync/atomic.SwapUint64", "sync/atomic.LoadUint64", "sync/atomic.AddUint64", "sync/atomic.CompareAndSwapUint64"], unfollowed := true, recurses := true, apart := false, narrowed := true }
def HandsReadersUptoSaid : Prop := handsReadersUptoRow.holds Tryz.pinned (OpenSpec.upto handsReadersSpec)

/-- 'nestboxlaw24.VictimsFree', WHERE WHAT IT READS IS OF BULK AT MOST 1048576: true; the input reads as it did. -/
def victimsFreeUptoRow : OpenClaim := { program := "ytlcibfpibklbdaagreat", sum := "8618d6e3dcf24b29867d89df10241e2412afd580d2714b7e2c39ba8519cea908", func := "nestbox/nestboxlaw24.VictimsFree", spec := "victimsFree", inPlace := ["sync/atomic.StoreUint64", "sync/atomic.LoadUint64", "sync/atomic.AddUint64", "sync/atomic.SwapUint64"], unfollowed := true, recurses := true, apart := false, narrowed := true }
def VictimsFreeUptoSaid : Prop := victimsFreeUptoRow.holds Tryz.pinned (OpenSpec.upto victimsFreeSpec)

/-- 'nestboxlaw24.VictimsOne', WHERE WHAT IT READS IS OF BULK AT MOST 1048576: true; the input reads as it did. -/
def victimsOneUptoRow : OpenClaim := { program := "ytlcibfpibklbdaagreat", sum := "8618d6e3dcf24b29867d89df10241e2412afd580d2714b7e2c39ba8519cea908", func := "nestbox/nestboxlaw24.VictimsOne", spec := "victimsOne", inPlace := ["sync/atomic.StoreUint64", "sync/atomic.LoadUint64", "sync/atomic.AddUint64", "sync/atomic.SwapUint64"], unfollowed := true, recurses := true, apart := false, narrowed := true }
def VictimsOneUptoSaid : Prop := victimsOneUptoRow.holds Tryz.pinned (OpenSpec.upto victimsOneSpec)

/-- 'nestboxlaw20.MovesVoid', WHERE WHAT IT READS IS OF BULK AT MOST 1048576: true; the input reads as it did. -/
def movesVoidUptoRow : OpenClaim := { program := "ytlcibfpibklbdaagreat", sum := "8618d6e3dcf24b29867d89df10241e2412afd580d2714b7e2c39ba8519cea908", func := "nestbox/nestboxlaw20.MovesVoid", spec := "movesVoid", inPlace := ["sync/atomic.StoreUint64", "sync/atomic.SwapUint64", "sync/atomic.LoadUint64", "sync/atomic.CompareAndSwapUint64"], unfollowed := true, recurses := true, apart := false, narrowed := true }
def MovesVoidUptoSaid : Prop := movesVoidUptoRow.holds Tryz.pinned (OpenSpec.upto movesVoidSpec)

/-- 'nestboxlaw23.HandsPlay', WHERE WHAT IT READS IS OF BULK AT MOST 1048576: true; the input reads as it did. -/
def handsPlayUptoRow : OpenClaim := { program := "ytlcibfpibklbdaagreat", sum := "8618d6e3dcf24b29867d89df10241e2412afd580d2714b7e2c39ba8519cea908", func := "nestbox/nestboxlaw23.HandsPlay", spec := "handsPlay", inPlace := ["sync/atomic.StoreUint64", "sync/atomic.SwapUint64", "sync/atomic.LoadUint64", "sync/atomic.CompareAndSwapUint64", "sync/atomic.AddUint64"], unfollowed := true, recurses := true, apart := false, narrowed := true }
def HandsPlayUptoSaid : Prop := handsPlayUptoRow.holds Tryz.pinned (OpenSpec.upto handsPlaySpec)

/-- 'nestboxlaw23.HandsVoid', WHERE WHAT IT READS IS OF BULK AT MOST 1048576: true; the input reads as it did. -/
def handsVoidUptoRow : OpenClaim := { program := "ytlcibfpibklbdaagreat", sum := "8618d6e3dcf24b29867d89df10241e2412afd580d2714b7e2c39ba8519cea908", func := "nestbox/nestboxlaw23.HandsVoid", spec := "handsVoid", inPlace := ["sync/atomic.StoreUint64", "sync/atomic.SwapUint64", "sync/atomic.LoadUint64", "sync/atomic.CompareAndSwapUint64", "sync/atomic.AddUint64"], unfollowed := true, recurses := true, apart := false, narrowed := true }
def HandsVoidUptoSaid : Prop := handsVoidUptoRow.holds Tryz.pinned (OpenSpec.upto handsVoidSpec)

/-- 'nestboxlaw24.VictimsPlay', WHERE WHAT IT READS IS OF BULK AT MOST 1048576: true; the input reads as it did. -/
def victimsPlayUptoRow : OpenClaim := { program := "ytlcibfpibklbdaagreat", sum := "8618d6e3dcf24b29867d89df10241e2412afd580d2714b7e2c39ba8519cea908", func := "nestbox/nestboxlaw24.VictimsPlay", spec := "victimsPlay", inPlace := ["sync/atomic.StoreUint64", "sync/atomic.LoadUint64", "sync/atomic.AddUint64", "sync/atomic.SwapUint64", "sync/atomic.CompareAndSwapUint64"], unfollowed := true, recurses := true, apart := false, narrowed := true }
def VictimsPlayUptoSaid : Prop := victimsPlayUptoRow.holds Tryz.pinned (OpenSpec.upto victimsPlaySpec)

/-- 'nestboxlaw24.VictimsVoid', WHERE WHAT IT READS IS OF BULK AT MOST 1048576: true; the input reads as it did. -/
def victimsVoidUptoRow : OpenClaim := { program := "ytlcibfpibklbdaagreat", sum := "8618d6e3dcf24b29867d89df10241e2412afd580d2714b7e2c39ba8519cea908", func := "nestbox/nestboxlaw24.VictimsVoid", spec := "victimsVoid", inPlace := ["sync/atomic.StoreUint64", "sync/atomic.SwapUint64", "sync/atomic.LoadUint64", "sync/atomic.CompareAndSwapUint64", "sync/atomic.AddUint64"], unfollowed := true, recurses := true, apart := false, narrowed := true }
def VictimsVoidUptoSaid : Prop := victimsVoidUptoRow.holds Tryz.pinned (OpenSpec.upto victimsVoidSpec)

end Rows
end Go.Proofs.YtlcibfpibklbdaaGreat
