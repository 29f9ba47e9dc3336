/-
  No cell of these rows narrows 'for every input' (looked for: loops, veiled, ifaces, maps, wideKeys, modest, calm, conditions, laid).
  DERIVED. THE GIVEN ROWS OF THIS SEAT. 3 by the template 'for every input the law returns true; each argument reads behind the call as it read before'; 0 by the template 'total and deterministic' (their statements: YtfnmdafpdcgcmaaGreatTotals.lean).
  GIVEN WITH THE SEED: the statements are not yours to turn. If you find one false, say at which input.
  Laid BY PROGRAM, IN A SANDBOX (cutbox-rows.mjs): the forced cells as the released guide's own fill.sh prints them over the translation 63e13251f8669b06… (all of the seat's roots in one cut). By AI agents, Wed Nov 11 2026. No macro, syntax, notation, axiom, sorry.
-/
import Derived.Test.YtfnmdafpdcgcmaaGreatChecked
import GoSem.Claim
import GoSem.ClaimJoined
import GoSem.ClaimMapViews
import Derived.JoinedTies
import Derived.KernelRfl
namespace Go.Proofs.YtfnmdafpdcgcmaaGreat
/- THE CELL 'sum', in the pinned program and in every row, IS THE sha256 OF THE DUMP (.gsa) THAT YtfnmdafpdcgcmaaGreatProg.lean LOADS. Nothing in Lean hashes anything: it is a label: what it is worth is what the hold of that sum in a sandbox is worth. -/
noncomputable def Tryz.pinned : Pinned := { name := "ytfnmdafpdcgcmaagreat", sum := "63e13251f8669b0698ab5e86453f53713d75a21cc5a2d7c0d8e85da4a3af2872", checked := Tryz.checked }
namespace Rows
def none {H : Type} : Left H := { results := [], args := [] }

/-- 'nestboxlaw20.MovesAll': WHATEVER THE INPUT: true; the input reads as it did. -/
def movesAllSpec : ChangeSpec := { name := "movesAll", fn := fun _ => fun
  | [d1, d2] => { results := [.lit (.bool true)], args := [d1, d2] }
  | _ => none }
def movesAllRow : OpenClaim := { program := "ytfnmdafpdcgcmaagreat", sum := "63e13251f8669b0698ab5e86453f53713d75a21cc5a2d7c0d8e85da4a3af2872", func := "nestbox/nestboxlaw20.MovesAll", spec := "movesAll", inPlace := ["sync/atomic.StoreUint64", "sync/atomic.SwapUint64", "sync/atomic.LoadUint64"], unfollowed := true, recurses := true, apart := false }
def MovesAllSaid : Prop := movesAllRow.holds Tryz.pinned (OpenSpec.ofChange movesAllSpec)

/-- ITS FALSE NEIGHBOUR: 'it returns false'. Refute it at one input. -/
def movesAllWrong : ChangeSpec := { name := "movesAll", fn := fun _ => fun
  | [d1, d2] => { results := [.lit (.bool false)], args := [d1, d2] }
  | _ => none }
def MovesAllWrongFalsely : Prop := movesAllRow.holds Tryz.pinned (OpenSpec.ofChange movesAllWrong)

/-- 'nestboxlaw20.MovesLost': WHATEVER THE INPUT: true; the input reads as it did. -/
def movesLostSpec : ChangeSpec := { name := "movesLost", fn := fun _ => fun
  | [d1, d2, d3] => { results := [.lit (.bool true)], args := [d1, d2, d3] }
  | _ => none }
def movesLostRow : OpenClaim := { program := "ytfnmdafpdcgcmaagreat", sum := "63e13251f8669b0698ab5e86453f53713d75a21cc5a2d7c0d8e85da4a3af2872", func := "nestbox/nestboxlaw20.MovesLost", spec := "movesLost", inPlace := ["sync/atomic.StoreUint64", "sync/atomic.SwapUint64", "sync/atomic.LoadUint64"], unfollowed := true, recurses := true, apart := false }
def MovesLostSaid : Prop := movesLostRow.holds Tryz.pinned (OpenSpec.ofChange movesLostSpec)

/-- ITS FALSE NEIGHBOUR: 'it returns false'. Refute it at one input. -/
def movesLostWrong : ChangeSpec := { name := "movesLost", fn := fun _ => fun
  | [d1, d2, d3] => { results := [.lit (.bool false)], args := [d1, d2, d3] }
  | _ => none }
def MovesLostWrongFalsely : Prop := movesLostRow.holds Tryz.pinned (OpenSpec.ofChange movesLostWrong)

/-- 'nestboxlaw21.TurnsAll': WHATEVER THE INPUT: true; the input reads as it did. -/
def turnsAllSpec : ChangeSpec := { name := "turnsAll", fn := fun _ => fun
  | [d1, d2] => { results := [.lit (.bool true)], args := [d1, d2] }
  | _ => none }
def turnsAllRow : OpenClaim := { program := "ytfnmdafpdcgcmaagreat", sum := "63e13251f8669b0698ab5e86453f53713d75a21cc5a2d7c0d8e85da4a3af2872", func := "nestbox/nestboxlaw21.TurnsAll", spec := "turnsAll", inPlace := ["sync/atomic.StoreUint64", "sync/atomic.SwapUint64", "sync/atomic.LoadUint64"], unfollowed := true, recurses := true, apart := false }
def TurnsAllSaid : Prop := turnsAllRow.holds Tryz.pinned (OpenSpec.ofChange turnsAllSpec)

/-- ITS FALSE NEIGHBOUR: 'it returns false'. Refute it at one input. -/
def turnsAllWrong : ChangeSpec := { name := "turnsAll", fn := fun _ => fun
  | [d1, d2] => { results := [.lit (.bool false)], args := [d1, d2] }
  | _ => none }
def TurnsAllWrongFalsely : Prop := turnsAllRow.holds Tryz.pinned (OpenSpec.ofChange turnsAllWrong)

/- THE SECOND FORM. 'bulk': how many values and letters a reading holds, each counted each time it is reached (what is shared counts as often as it is met; a slice's spare places count too). A statement '..UptoSaid' is the law's where the arguments, and the package variables that the reading takes, are together of bulk at most 1048576: NARROWER than '..Said'. Prove '..Said' where nothing that the law and all that it calls make is longer than what came in: it says more and counts as full. Else prove '..UptoSaid'. A law counts once. -/
mutual
def uptoBulk {H : Type} : DataW H → Nat
  | .lit (.string bytes) => bytes.length + 1
  | .lit _ => 1
  | .nil => 1
  | .ptr d => uptoBulk d + 1
  | .slice elems spare => uptoBulkAll elems + uptoBulkAll spare + 1
  | .agg parts => uptoBulkAll parts + 1
  | .iface _ d => uptoBulk d + 1
  | .map entries => uptoBulkEntries entries + 1
  | .held _ => 1
def uptoBulkAll {H : Type} : List (DataW H) → Nat
  | [] => 0
  | d :: r => uptoBulk d + uptoBulkAll r
def uptoBulkEntries {H : Type} : List (Lit × DataW H) → Nat
  | [] => 0
  | x :: r => uptoBulkEntry x + uptoBulkEntries r
def uptoBulkEntry {H : Type} : Lit × DataW H → Nat
  | (.string bytes, d) => bytes.length + uptoBulk d + 1
  | (_, d) => uptoBulk d + 1
 end
def uptoSmall : (H : Type) → List (DataW H) → Bool := fun _ ds => decide (uptoBulkAll ds ≤ 1048576)
def OpenSpec.upto (s : _root_.Go.ChangeSpec) : _root_.Go.OpenSpec := { _root_.Go.OpenSpec.ofChange s with cond := some uptoSmall }

/-- 'nestboxlaw20.MovesAll', WHERE WHAT IT READS IS OF BULK AT MOST 1048576: true; the input reads as it did. -/
def movesAllUptoRow : OpenClaim := { program := "ytfnmdafpdcgcmaagreat", sum := "63e13251f8669b0698ab5e86453f53713d75a21cc5a2d7c0d8e85da4a3af2872", func := "nestbox/nestboxlaw20.MovesAll", spec := "movesAll", inPlace := ["sync/atomic.StoreUint64", "sync/atomic.SwapUint64", "sync/atomic.LoadUint64"], unfollowed := true, recurses := true, apart := false, narrowed := true }
def MovesAllUptoSaid : Prop := movesAllUptoRow.holds Tryz.pinned (OpenSpec.upto movesAllSpec)

/-- 'nestboxlaw20.MovesLost', WHERE WHAT IT READS IS OF BULK AT MOST 1048576: true; the input reads as it did. -/
def movesLostUptoRow : OpenClaim := { program := "ytfnmdafpdcgcmaagreat", sum := "63e13251f8669b0698ab5e86453f53713d75a21cc5a2d7c0d8e85da4a3af2872", func := "nestbox/nestboxlaw20.MovesLost", spec := "movesLost", inPlace := ["sync/atomic.StoreUint64", "sync/atomic.SwapUint64", "sync/atomic.LoadUint64"], unfollowed := true, recurses := true, apart := false, narrowed := true }
def MovesLostUptoSaid : Prop := movesLostUptoRow.holds Tryz.pinned (OpenSpec.upto movesLostSpec)

/-- 'nestboxlaw21.TurnsAll', WHERE WHAT IT READS IS OF BULK AT MOST 1048576: true; the input reads as it did. -/
def turnsAllUptoRow : OpenClaim := { program := "ytfnmdafpdcgcmaagreat", sum := "63e13251f8669b0698ab5e86453f53713d75a21cc5a2d7c0d8e85da4a3af2872", func := "nestbox/nestboxlaw21.TurnsAll", spec := "turnsAll", inPlace := ["sync/atomic.StoreUint64", "sync/atomic.SwapUint64", "sync/atomic.LoadUint64"], unfollowed := true, recurses := true, apart := false, narrowed := true }
def TurnsAllUptoSaid : Prop := turnsAllUptoRow.holds Tryz.pinned (OpenSpec.upto turnsAllSpec)

end Rows
end Go.Proofs.YtfnmdafpdcgcmaaGreat
