/-
  No cell of these rows narrows 'for every input' (looked for: loops, veiled, ifaces, maps, wideKeys, modest, calm, conditions, laid).
  DERIVED. THE GIVEN ROWS OF THIS SEAT. 12 by the template 'for every input the law returns true; each argument reads behind the call as it read before'; 0 by the template 'total and deterministic' (their statements: YtcgjopjjmgpobaaTotals.lean).
  GIVEN WITH THE SEED: the statements are not yours to turn. If you find one false, say at which input.
  Laid BY PROGRAM, IN A SANDBOX (cutbox-rows.mjs): the forced cells as the released guide's own fill.sh prints them over the translation bfdea10939e8e48d… (all of the seat's roots in one cut). By AI agents, Wed Nov 11 2026. No macro, syntax, notation, axiom, sorry.
-/
import Derived.Test.YtcgjopjjmgpobaaChecked
import GoSem.Claim
import GoSem.ClaimJoined
import GoSem.ClaimMapViews
import Derived.JoinedTies
import Derived.KernelRfl
namespace Go.Proofs.Ytcgjopjjmgpobaa
/- THE CELL 'sum', in the pinned program and in every row, IS THE sha256 OF THE DUMP (.gsa) THAT YtcgjopjjmgpobaaProg.lean LOADS. Nothing in Lean hashes anything: it is a label: what it is worth is what the hold of that sum in a sandbox is worth. -/
noncomputable def Try.pinned : Pinned := { name := "ytcgjopjjmgpobaa", sum := "bfdea10939e8e48d49758edea772c3e3341b1623d51908eca8975f95bcb690f8", checked := Try.checked }
namespace Rows
def none {H : Type} : Left H := { results := [], args := [] }

/-- 'nestboxlaw07.EpochsWord': WHATEVER THE INPUT: true; the input reads as it did. -/
def epochsWordSpec : ChangeSpec := { name := "epochsWord", fn := fun _ => fun
  | [d1, d2, d3] => { results := [.lit (.bool true)], args := [d1, d2, d3] }
  | _ => none }
def epochsWordRow : OpenClaim := { program := "ytcgjopjjmgpobaa", sum := "bfdea10939e8e48d49758edea772c3e3341b1623d51908eca8975f95bcb690f8", func := "nestbox/nestboxlaw07.EpochsWord", spec := "epochsWord", apart := false }
def EpochsWordSaid : Prop := epochsWordRow.holds Try.pinned (OpenSpec.ofChange epochsWordSpec)

/-- ITS FALSE NEIGHBOUR: 'it returns false'. Refute it at one input. -/
def epochsWordWrong : ChangeSpec := { name := "epochsWord", fn := fun _ => fun
  | [d1, d2, d3] => { results := [.lit (.bool false)], args := [d1, d2, d3] }
  | _ => none }
def EpochsWordWrongFalsely : Prop := epochsWordRow.holds Try.pinned (OpenSpec.ofChange epochsWordWrong)

/-- 'nestboxlaw07.EpochsAlive': WHATEVER THE INPUT: true; the input reads as it did. -/
def epochsAliveSpec : ChangeSpec := { name := "epochsAlive", fn := fun _ => fun
  | [d1, d2, d3] => { results := [.lit (.bool true)], args := [d1, d2, d3] }
  | _ => none }
def epochsAliveRow : OpenClaim := { program := "ytcgjopjjmgpobaa", sum := "bfdea10939e8e48d49758edea772c3e3341b1623d51908eca8975f95bcb690f8", func := "nestbox/nestboxlaw07.EpochsAlive", spec := "epochsAlive", apart := false }
def EpochsAliveSaid : Prop := epochsAliveRow.holds Try.pinned (OpenSpec.ofChange epochsAliveSpec)

/-- ITS FALSE NEIGHBOUR: 'it returns false'. Refute it at one input. -/
def epochsAliveWrong : ChangeSpec := { name := "epochsAlive", fn := fun _ => fun
  | [d1, d2, d3] => { results := [.lit (.bool false)], args := [d1, d2, d3] }
  | _ => none }
def EpochsAliveWrongFalsely : Prop := epochsAliveRow.holds Try.pinned (OpenSpec.ofChange epochsAliveWrong)

/-- 'nestboxlaw07.EpochsBack': WHATEVER THE INPUT: true; the input reads as it did. -/
def epochsBackSpec : ChangeSpec := { name := "epochsBack", fn := fun _ => fun
  | [d] => { results := [.lit (.bool true)], args := [d] }
  | _ => none }
def epochsBackRow : OpenClaim := { program := "ytcgjopjjmgpobaa", sum := "bfdea10939e8e48d49758edea772c3e3341b1623d51908eca8975f95bcb690f8", func := "nestbox/nestboxlaw07.EpochsBack", spec := "epochsBack", apart := false }
def EpochsBackSaid : Prop := epochsBackRow.holds Try.pinned (OpenSpec.ofChange epochsBackSpec)

/-- ITS FALSE NEIGHBOUR: 'it returns false'. Refute it at one input. -/
def epochsBackWrong : ChangeSpec := { name := "epochsBack", fn := fun _ => fun
  | [d] => { results := [.lit (.bool false)], args := [d] }
  | _ => none }
def EpochsBackWrongFalsely : Prop := epochsBackRow.holds Try.pinned (OpenSpec.ofChange epochsBackWrong)

/-- 'nestboxlaw07.EpochsDead': WHATEVER THE INPUT: true; the input reads as it did. -/
def epochsDeadSpec : ChangeSpec := { name := "epochsDead", fn := fun _ => fun
  | [d1, d2, d3] => { results := [.lit (.bool true)], args := [d1, d2, d3] }
  | _ => none }
def epochsDeadRow : OpenClaim := { program := "ytcgjopjjmgpobaa", sum := "bfdea10939e8e48d49758edea772c3e3341b1623d51908eca8975f95bcb690f8", func := "nestbox/nestboxlaw07.EpochsDead", spec := "epochsDead", apart := false }
def EpochsDeadSaid : Prop := epochsDeadRow.holds Try.pinned (OpenSpec.ofChange epochsDeadSpec)

/-- ITS FALSE NEIGHBOUR: 'it returns false'. Refute it at one input. -/
def epochsDeadWrong : ChangeSpec := { name := "epochsDead", fn := fun _ => fun
  | [d1, d2, d3] => { results := [.lit (.bool false)], args := [d1, d2, d3] }
  | _ => none }
def EpochsDeadWrongFalsely : Prop := epochsDeadRow.holds Try.pinned (OpenSpec.ofChange epochsDeadWrong)

/-- 'nestboxlaw07.EpochsStored': WHATEVER THE INPUT: true; the input reads as it did. -/
def epochsStoredSpec : ChangeSpec := { name := "epochsStored", fn := fun _ => fun
  | [d1, d2] => { results := [.lit (.bool true)], args := [d1, d2] }
  | _ => none }
def epochsStoredRow : OpenClaim := { program := "ytcgjopjjmgpobaa", sum := "bfdea10939e8e48d49758edea772c3e3341b1623d51908eca8975f95bcb690f8", func := "nestbox/nestboxlaw07.EpochsStored", spec := "epochsStored", apart := false }
def EpochsStoredSaid : Prop := epochsStoredRow.holds Try.pinned (OpenSpec.ofChange epochsStoredSpec)

/-- ITS FALSE NEIGHBOUR: 'it returns false'. Refute it at one input. -/
def epochsStoredWrong : ChangeSpec := { name := "epochsStored", fn := fun _ => fun
  | [d1, d2] => { results := [.lit (.bool false)], args := [d1, d2] }
  | _ => none }
def EpochsStoredWrongFalsely : Prop := epochsStoredRow.holds Try.pinned (OpenSpec.ofChange epochsStoredWrong)

/-- 'nestboxlaw07.EpochsDelay': WHATEVER THE INPUT: true; the input reads as it did. -/
def epochsDelaySpec : ChangeSpec := { name := "epochsDelay", fn := fun _ => fun
  | [d1, d2, d3] => { results := [.lit (.bool true)], args := [d1, d2, d3] }
  | _ => none }
def epochsDelayRow : OpenClaim := { program := "ytcgjopjjmgpobaa", sum := "bfdea10939e8e48d49758edea772c3e3341b1623d51908eca8975f95bcb690f8", func := "nestbox/nestboxlaw07.EpochsDelay", spec := "epochsDelay", apart := false }
def EpochsDelaySaid : Prop := epochsDelayRow.holds Try.pinned (OpenSpec.ofChange epochsDelaySpec)

/-- ITS FALSE NEIGHBOUR: 'it returns false'. Refute it at one input. -/
def epochsDelayWrong : ChangeSpec := { name := "epochsDelay", fn := fun _ => fun
  | [d1, d2, d3] => { results := [.lit (.bool false)], args := [d1, d2, d3] }
  | _ => none }
def EpochsDelayWrongFalsely : Prop := epochsDelayRow.holds Try.pinned (OpenSpec.ofChange epochsDelayWrong)

/-- 'nestboxlaw09.NotesDropped': WHATEVER THE INPUT: true; the input reads as it did. -/
def notesDroppedSpec : ChangeSpec := { name := "notesDropped", fn := fun _ => fun
  | [d1, d2] => { results := [.lit (.bool true)], args := [d1, d2] }
  | _ => none }
def notesDroppedRow : OpenClaim := { program := "ytcgjopjjmgpobaa", sum := "bfdea10939e8e48d49758edea772c3e3341b1623d51908eca8975f95bcb690f8", func := "nestbox/nestboxlaw09.NotesDropped", spec := "notesDropped", unfollowed := true, recurses := true, apart := false }
def NotesDroppedSaid : Prop := notesDroppedRow.holds Try.pinned (OpenSpec.ofChange notesDroppedSpec)

/-- ITS FALSE NEIGHBOUR: 'it returns false'. Refute it at one input. -/
def notesDroppedWrong : ChangeSpec := { name := "notesDropped", fn := fun _ => fun
  | [d1, d2] => { results := [.lit (.bool false)], args := [d1, d2] }
  | _ => none }
def NotesDroppedWrongFalsely : Prop := notesDroppedRow.holds Try.pinned (OpenSpec.ofChange notesDroppedWrong)

/-- 'nestboxlaw09.NotesKinds': WHATEVER THE INPUT: true; the input reads as it did. -/
def notesKindsSpec : ChangeSpec := { name := "notesKinds", fn := fun _ => fun
  | [d1, d2] => { results := [.lit (.bool true)], args := [d1, d2] }
  | _ => none }
def notesKindsRow : OpenClaim := { program := "ytcgjopjjmgpobaa", sum := "bfdea10939e8e48d49758edea772c3e3341b1623d51908eca8975f95bcb690f8", func := "nestbox/nestboxlaw09.NotesKinds", spec := "notesKinds", unfollowed := true, recurses := true, apart := false }
def NotesKindsSaid : Prop := notesKindsRow.holds Try.pinned (OpenSpec.ofChange notesKindsSpec)

/-- ITS FALSE NEIGHBOUR: 'it returns false'. Refute it at one input. -/
def notesKindsWrong : ChangeSpec := { name := "notesKinds", fn := fun _ => fun
  | [d1, d2] => { results := [.lit (.bool false)], args := [d1, d2] }
  | _ => none }
def NotesKindsWrongFalsely : Prop := notesKindsRow.holds Try.pinned (OpenSpec.ofChange notesKindsWrong)

/-- 'nestboxlaw09.NotesFull': WHATEVER THE INPUT: true; the input reads as it did. -/
def notesFullSpec : ChangeSpec := { name := "notesFull", fn := fun _ => fun
  | [] => { results := [.lit (.bool true)], args := [] }
  | _ => none }
def notesFullRow : OpenClaim := { program := "ytcgjopjjmgpobaa", sum := "bfdea10939e8e48d49758edea772c3e3341b1623d51908eca8975f95bcb690f8", func := "nestbox/nestboxlaw09.NotesFull", spec := "notesFull", unfollowed := true, recurses := true, apart := false }
def NotesFullSaid : Prop := notesFullRow.holds Try.pinned (OpenSpec.ofChange notesFullSpec)

/-- ITS FALSE NEIGHBOUR: 'it returns false'. Refute it at one input. -/
def notesFullWrong : ChangeSpec := { name := "notesFull", fn := fun _ => fun
  | [] => { results := [.lit (.bool false)], args := [] }
  | _ => none }
def NotesFullWrongFalsely : Prop := notesFullRow.holds Try.pinned (OpenSpec.ofChange notesFullWrong)

/-- 'nestboxlaw09.NotesPlay': WHATEVER THE INPUT: true; the input reads as it did. -/
def notesPlaySpec : ChangeSpec := { name := "notesPlay", fn := fun _ => fun
  | [d1, d2, d3] => { results := [.lit (.bool true)], args := [d1, d2, d3] }
  | _ => none }
def notesPlayRow : OpenClaim := { program := "ytcgjopjjmgpobaa", sum := "bfdea10939e8e48d49758edea772c3e3341b1623d51908eca8975f95bcb690f8", func := "nestbox/nestboxlaw09.NotesPlay", spec := "notesPlay", unfollowed := true, recurses := true, apart := false }
def NotesPlaySaid : Prop := notesPlayRow.holds Try.pinned (OpenSpec.ofChange notesPlaySpec)

/-- ITS FALSE NEIGHBOUR: 'it returns false'. Refute it at one input. -/
def notesPlayWrong : ChangeSpec := { name := "notesPlay", fn := fun _ => fun
  | [d1, d2, d3] => { results := [.lit (.bool false)], args := [d1, d2, d3] }
  | _ => none }
def NotesPlayWrongFalsely : Prop := notesPlayRow.holds Try.pinned (OpenSpec.ofChange notesPlayWrong)

/-- 'nestboxlaw09.NotesNames': WHATEVER THE INPUT: true; the input reads as it did. -/
def notesNamesSpec : ChangeSpec := { name := "notesNames", fn := fun _ => fun
  | [d1, d2, d3] => { results := [.lit (.bool true)], args := [d1, d2, d3] }
  | _ => none }
def notesNamesRow : OpenClaim := { program := "ytcgjopjjmgpobaa", sum := "bfdea10939e8e48d49758edea772c3e3341b1623d51908eca8975f95bcb690f8", func := "nestbox/nestboxlaw09.NotesNames", spec := "notesNames", unfollowed := true, recurses := true, apart := false }
def NotesNamesSaid : Prop := notesNamesRow.holds Try.pinned (OpenSpec.ofChange notesNamesSpec)

/-- ITS FALSE NEIGHBOUR: 'it returns false'. Refute it at one input. -/
def notesNamesWrong : ChangeSpec := { name := "notesNames", fn := fun _ => fun
  | [d1, d2, d3] => { results := [.lit (.bool false)], args := [d1, d2, d3] }
  | _ => none }
def NotesNamesWrongFalsely : Prop := notesNamesRow.holds Try.pinned (OpenSpec.ofChange notesNamesWrong)

/-- 'nestboxlaw09.NotesStay': WHATEVER THE INPUT: true; the input reads as it did. -/
def notesStaySpec : ChangeSpec := { name := "notesStay", fn := fun _ => fun
  | [d1, d2] => { results := [.lit (.bool true)], args := [d1, d2] }
  | _ => none }
def notesStayRow : OpenClaim := { program := "ytcgjopjjmgpobaa", sum := "bfdea10939e8e48d49758edea772c3e3341b1623d51908eca8975f95bcb690f8", func := "nestbox/nestboxlaw09.NotesStay", spec := "notesStay", unfollowed := true, recurses := true, apart := false }
def NotesStaySaid : Prop := notesStayRow.holds Try.pinned (OpenSpec.ofChange notesStaySpec)

/-- ITS FALSE NEIGHBOUR: 'it returns false'. Refute it at one input. -/
def notesStayWrong : ChangeSpec := { name := "notesStay", fn := fun _ => fun
  | [d1, d2] => { results := [.lit (.bool false)], args := [d1, d2] }
  | _ => none }
def NotesStayWrongFalsely : Prop := notesStayRow.holds Try.pinned (OpenSpec.ofChange notesStayWrong)

/- THE SECOND FORM. 'bulk': how many values and letters a reading holds, each counted each time it is reached (what is shared counts as often as it is met; a slice's spare places count too). A statement '..UptoSaid' is the law's where the arguments, and the package variables that the reading takes, are together of bulk at most 1048576: NARROWER than '..Said'. Prove '..Said' where nothing that the law and all that it calls make is longer than what came in: it says more and counts as full. Else prove '..UptoSaid'. A law counts once. -/
mutual
def uptoBulk {H : Type} : DataW H → Nat
  | .lit (.string bytes) => bytes.length + 1
  | .lit _ => 1
  | .nil => 1
  | .ptr d => uptoBulk d + 1
  | .slice elems spare => uptoBulkAll elems + uptoBulkAll spare + 1
  | .agg parts => uptoBulkAll parts + 1
  | .iface _ d => uptoBulk d + 1
  | .map entries => uptoBulkEntries entries + 1
  | .held _ => 1
def uptoBulkAll {H : Type} : List (DataW H) → Nat
  | [] => 0
  | d :: r => uptoBulk d + uptoBulkAll r
def uptoBulkEntries {H : Type} : List (Lit × DataW H) → Nat
  | [] => 0
  | x :: r => uptoBulkEntry x + uptoBulkEntries r
def uptoBulkEntry {H : Type} : Lit × DataW H → Nat
  | (.string bytes, d) => bytes.length + uptoBulk d + 1
  | (_, d) => uptoBulk d + 1
 end
def uptoSmall : (H : Type) → List (DataW H) → Bool := fun _ ds => decide (uptoBulkAll ds ≤ 1048576)
def OpenSpec.upto (s : _root_.Go.ChangeSpec) : _root_.Go.OpenSpec := { _root_.Go.OpenSpec.ofChange s with cond := some uptoSmall }

/-- 'nestboxlaw07.EpochsWord', WHERE WHAT IT READS IS OF BULK AT MOST 1048576: true; the input reads as it did. -/
def epochsWordUptoRow : OpenClaim := { program := "ytcgjopjjmgpobaa", sum := "bfdea10939e8e48d49758edea772c3e3341b1623d51908eca8975f95bcb690f8", func := "nestbox/nestboxlaw07.EpochsWord", spec := "epochsWord", apart := false, narrowed := true }
def EpochsWordUptoSaid : Prop := epochsWordUptoRow.holds Try.pinned (OpenSpec.upto epochsWordSpec)

/-- 'nestboxlaw07.EpochsAlive', WHERE WHAT IT READS IS OF BULK AT MOST 1048576: true; the input reads as it did. -/
def epochsAliveUptoRow : OpenClaim := { program := "ytcgjopjjmgpobaa", sum := "bfdea10939e8e48d49758edea772c3e3341b1623d51908eca8975f95bcb690f8", func := "nestbox/nestboxlaw07.EpochsAlive", spec := "epochsAlive", apart := false, narrowed := true }
def EpochsAliveUptoSaid : Prop := epochsAliveUptoRow.holds Try.pinned (OpenSpec.upto epochsAliveSpec)

/-- 'nestboxlaw07.EpochsBack', WHERE WHAT IT READS IS OF BULK AT MOST 1048576: true; the input reads as it did. -/
def epochsBackUptoRow : OpenClaim := { program := "ytcgjopjjmgpobaa", sum := "bfdea10939e8e48d49758edea772c3e3341b1623d51908eca8975f95bcb690f8", func := "nestbox/nestboxlaw07.EpochsBack", spec := "epochsBack", apart := false, narrowed := true }
def EpochsBackUptoSaid : Prop := epochsBackUptoRow.holds Try.pinned (OpenSpec.upto epochsBackSpec)

/-- 'nestboxlaw07.EpochsDead', WHERE WHAT IT READS IS OF BULK AT MOST 1048576: true; the input reads as it did. -/
def epochsDeadUptoRow : OpenClaim := { program := "ytcgjopjjmgpobaa", sum := "bfdea10939e8e48d49758edea772c3e3341b1623d51908eca8975f95bcb690f8", func := "nestbox/nestboxlaw07.EpochsDead", spec := "epochsDead", apart := false, narrowed := true }
def EpochsDeadUptoSaid : Prop := epochsDeadUptoRow.holds Try.pinned (OpenSpec.upto epochsDeadSpec)

/-- 'nestboxlaw07.EpochsStored', WHERE WHAT IT READS IS OF BULK AT MOST 1048576: true; the input reads as it did. -/
def epochsStoredUptoRow : OpenClaim := { program := "ytcgjopjjmgpobaa", sum := "bfdea10939e8e48d49758edea772c3e3341b1623d51908eca8975f95bcb690f8", func := "nestbox/nestboxlaw07.EpochsStored", spec := "epochsStored", apart := false, narrowed := true }
def EpochsStoredUptoSaid : Prop := epochsStoredUptoRow.holds Try.pinned (OpenSpec.upto epochsStoredSpec)

/-- 'nestboxlaw07.EpochsDelay', WHERE WHAT IT READS IS OF BULK AT MOST 1048576: true; the input reads as it did. -/
def epochsDelayUptoRow : OpenClaim := { program := "ytcgjopjjmgpobaa", sum := "bfdea10939e8e48d49758edea772c3e3341b1623d51908eca8975f95bcb690f8", func := "nestbox/nestboxlaw07.EpochsDelay", spec := "epochsDelay", apart := false, narrowed := true }
def EpochsDelayUptoSaid : Prop := epochsDelayUptoRow.holds Try.pinned (OpenSpec.upto epochsDelaySpec)

/-- 'nestboxlaw09.NotesDropped', WHERE WHAT IT READS IS OF BULK AT MOST 1048576: true; the input reads as it did. -/
def notesDroppedUptoRow : OpenClaim := { program := "ytcgjopjjmgpobaa", sum := "bfdea10939e8e48d49758edea772c3e3341b1623d51908eca8975f95bcb690f8", func := "nestbox/nestboxlaw09.NotesDropped", spec := "notesDropped", unfollowed := true, recurses := true, apart := false, narrowed := true }
def NotesDroppedUptoSaid : Prop := notesDroppedUptoRow.holds Try.pinned (OpenSpec.upto notesDroppedSpec)

/-- 'nestboxlaw09.NotesKinds', WHERE WHAT IT READS IS OF BULK AT MOST 1048576: true; the input reads as it did. -/
def notesKindsUptoRow : OpenClaim := { program := "ytcgjopjjmgpobaa", sum := "bfdea10939e8e48d49758edea772c3e3341b1623d51908eca8975f95bcb690f8", func := "nestbox/nestboxlaw09.NotesKinds", spec := "notesKinds", unfollowed := true, recurses := true, apart := false, narrowed := true }
def NotesKindsUptoSaid : Prop := notesKindsUptoRow.holds Try.pinned (OpenSpec.upto notesKindsSpec)

/-- 'nestboxlaw09.NotesFull', WHERE WHAT IT READS IS OF BULK AT MOST 1048576: true; the input reads as it did. -/
def notesFullUptoRow : OpenClaim := { program := "ytcgjopjjmgpobaa", sum := "bfdea10939e8e48d49758edea772c3e3341b1623d51908eca8975f95bcb690f8", func := "nestbox/nestboxlaw09.NotesFull", spec := "notesFull", unfollowed := true, recurses := true, apart := false, narrowed := true }
def NotesFullUptoSaid : Prop := notesFullUptoRow.holds Try.pinned (OpenSpec.upto notesFullSpec)

/-- 'nestboxlaw09.NotesPlay', WHERE WHAT IT READS IS OF BULK AT MOST 1048576: true; the input reads as it did. -/
def notesPlayUptoRow : OpenClaim := { program := "ytcgjopjjmgpobaa", sum := "bfdea10939e8e48d49758edea772c3e3341b1623d51908eca8975f95bcb690f8", func := "nestbox/nestboxlaw09.NotesPlay", spec := "notesPlay", unfollowed := true, recurses := true, apart := false, narrowed := true }
def NotesPlayUptoSaid : Prop := notesPlayUptoRow.holds Try.pinned (OpenSpec.upto notesPlaySpec)

/-- 'nestboxlaw09.NotesNames', WHERE WHAT IT READS IS OF BULK AT MOST 1048576: true; the input reads as it did. -/
def notesNamesUptoRow : OpenClaim := { program := "ytcgjopjjmgpobaa", sum := "bfdea10939e8e48d49758edea772c3e3341b1623d51908eca8975f95bcb690f8", func := "nestbox/nestboxlaw09.NotesNames", spec := "notesNames", unfollowed := true, recurses := true, apart := false, narrowed := true }
def NotesNamesUptoSaid : Prop := notesNamesUptoRow.holds Try.pinned (OpenSpec.upto notesNamesSpec)

/-- 'nestboxlaw09.NotesStay', WHERE WHAT IT READS IS OF BULK AT MOST 1048576: true; the input reads as it did. -/
def notesStayUptoRow : OpenClaim := { program := "ytcgjopjjmgpobaa", sum := "bfdea10939e8e48d49758edea772c3e3341b1623d51908eca8975f95bcb690f8", func := "nestbox/nestboxlaw09.NotesStay", spec := "notesStay", unfollowed := true, recurses := true, apart := false, narrowed := true }
def NotesStayUptoSaid : Prop := notesStayUptoRow.holds Try.pinned (OpenSpec.upto notesStaySpec)

end Rows
end Go.Proofs.Ytcgjopjjmgpobaa
