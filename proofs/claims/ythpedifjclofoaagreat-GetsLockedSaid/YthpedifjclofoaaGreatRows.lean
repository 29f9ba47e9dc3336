/-
  No cell of these rows narrows 'for every input' (looked for: loops, veiled, ifaces, maps, wideKeys, modest, calm, conditions, laid).
  DERIVED. THE GIVEN ROWS OF THIS SEAT. 5 by the template 'for every input the law returns true; each argument reads behind the call as it read before'; 0 by the template 'total and deterministic' (their statements: YthpedifjclofoaaGreatTotals.lean).
  GIVEN WITH THE SEED: the statements are not yours to turn. If you find one false, say at which input.
  Laid BY PROGRAM, IN A SANDBOX (cutbox-rows.mjs): the forced cells as the released guide's own fill.sh prints them over the translation 8fd0b723fce4bd3c… (all of the seat's roots in one cut). By AI agents, Wed Nov 11 2026. No macro, syntax, notation, axiom, sorry.
-/
import Derived.Test.YthpedifjclofoaaGreatChecked
import GoSem.Claim
import GoSem.ClaimJoined
import GoSem.ClaimMapViews
import Derived.JoinedTies
import Derived.KernelRfl
namespace Go.Proofs.YthpedifjclofoaaGreat
/- THE CELL 'sum', in the pinned program and in every row, IS THE sha256 OF THE DUMP (.gsa) THAT YthpedifjclofoaaGreatProg.lean LOADS. Nothing in Lean hashes anything: it is a label: what it is worth is what the hold of that sum in a sandbox is worth. -/
noncomputable def Tryz.pinned : Pinned := { name := "ythpedifjclofoaagreat", sum := "8fd0b723fce4bd3c642ed2bb2d513badbba2df59d6bfa89005a4ea9752387640", checked := Tryz.checked }
namespace Rows
def none {H : Type} : Left H := { results := [], args := [] }

/-- 'nestboxlaw25.StoresAgain': WHATEVER THE INPUT: true; the input reads as it did. -/
def storesAgainSpec : ChangeSpec := { name := "storesAgain", fn := fun _ => fun
  | [d1, d2] => { results := [.lit (.bool true)], args := [d1, d2] }
  | _ => none }
def storesAgainRow : OpenClaim := { program := "ythpedifjclofoaagreat", sum := "8fd0b723fce4bd3c642ed2bb2d513badbba2df59d6bfa89005a4ea9752387640", func := "nestbox/nestboxlaw25.StoresAgain", spec := "storesAgain", inPlace := ["sync/atomic.StoreUint64", "sync/atomic.AddUint64", "sync/atomic.LoadUint64", "sync/atomic.SwapUint64"], unfollowed := true, recurses := true, apart := false }
def StoresAgainSaid : Prop := storesAgainRow.holds Tryz.pinned (OpenSpec.ofChange storesAgainSpec)

/-- ITS FALSE NEIGHBOUR: 'it returns false'. Refute it at one input. -/
def storesAgainWrong : ChangeSpec := { name := "storesAgain", fn := fun _ => fun
  | [d1, d2] => { results := [.lit (.bool false)], args := [d1, d2] }
  | _ => none }
def StoresAgainWrongFalsely : Prop := storesAgainRow.holds Tryz.pinned (OpenSpec.ofChange storesAgainWrong)

/-- 'nestboxlaw28.GetsQuiet': WHATEVER THE INPUT: true; the input reads as it did. -/
def getsQuietSpec : ChangeSpec := { name := "getsQuiet", fn := fun _ => fun
  | [d1, d2, d3] => { results := [.lit (.bool true)], args := [d1, d2, d3] }
  | _ => none }
def getsQuietRow : OpenClaim := { program := "ythpedifjclofoaagreat", sum := "8fd0b723fce4bd3c642ed2bb2d513badbba2df59d6bfa89005a4ea9752387640", func := "nestbox/nestboxlaw28.GetsQuiet", spec := "getsQuiet", inPlace := ["sync/atomic.StoreUint64", "sync/atomic.AddUint64", "sync/atomic.LoadUint64", "sync/atomic.SwapUint64"], unfollowed := true, recurses := true, apart := false }
def GetsQuietSaid : Prop := getsQuietRow.holds Tryz.pinned (OpenSpec.ofChange getsQuietSpec)

/-- ITS FALSE NEIGHBOUR: 'it returns false'. Refute it at one input. -/
def getsQuietWrong : ChangeSpec := { name := "getsQuiet", fn := fun _ => fun
  | [d1, d2, d3] => { results := [.lit (.bool false)], args := [d1, d2, d3] }
  | _ => none }
def GetsQuietWrongFalsely : Prop := getsQuietRow.holds Tryz.pinned (OpenSpec.ofChange getsQuietWrong)

/-- 'nestboxlaw28.GetsLocked': WHATEVER THE INPUT: true; the input reads as it did. -/
def getsLockedSpec : ChangeSpec := { name := "getsLocked", fn := fun _ => fun
  | [d1, d2] => { results := [.lit (.bool true)], args := [d1, d2] }
  | _ => none }
def getsLockedRow : OpenClaim := { program := "ythpedifjclofoaagreat", sum := "8fd0b723fce4bd3c642ed2bb2d513badbba2df59d6bfa89005a4ea9752387640", func := "nestbox/nestboxlaw28.GetsLocked", spec := "getsLocked", inPlace := ["sync/atomic.StoreUint64", "sync/atomic.AddUint64", "sync/atomic.LoadUint64", "sync/atomic.SwapUint64"], unfollowed := true, recurses := true, apart := false }
def GetsLockedSaid : Prop := getsLockedRow.holds Tryz.pinned (OpenSpec.ofChange getsLockedSpec)

/-- ITS FALSE NEIGHBOUR: 'it returns false'. Refute it at one input. -/
def getsLockedWrong : ChangeSpec := { name := "getsLocked", fn := fun _ => fun
  | [d1, d2] => { results := [.lit (.bool false)], args := [d1, d2] }
  | _ => none }
def GetsLockedWrongFalsely : Prop := getsLockedRow.holds Tryz.pinned (OpenSpec.ofChange getsLockedWrong)

/-- 'nestboxlaw25.StoresVoid': WHATEVER THE INPUT: true; the input reads as it did. -/
def storesVoidSpec : ChangeSpec := { name := "storesVoid", fn := fun _ => fun
  | [d1, d2] => { results := [.lit (.bool true)], args := [d1, d2] }
  | _ => none }
def storesVoidRow : OpenClaim := { program := "ythpedifjclofoaagreat", sum := "8fd0b723fce4bd3c642ed2bb2d513badbba2df59d6bfa89005a4ea9752387640", func := "nestbox/nestboxlaw25.StoresVoid", spec := "storesVoid", inPlace := ["sync/atomic.StoreUint64", "sync/atomic.AddUint64", "sync/atomic.LoadUint64", "sync/atomic.SwapUint64", "sync/atomic.CompareAndSwapUint64"], unfollowed := true, recurses := true, apart := false }
def StoresVoidSaid : Prop := storesVoidRow.holds Tryz.pinned (OpenSpec.ofChange storesVoidSpec)

/-- ITS FALSE NEIGHBOUR: 'it returns false'. Refute it at one input. -/
def storesVoidWrong : ChangeSpec := { name := "storesVoid", fn := fun _ => fun
  | [d1, d2] => { results := [.lit (.bool false)], args := [d1, d2] }
  | _ => none }
def StoresVoidWrongFalsely : Prop := storesVoidRow.holds Tryz.pinned (OpenSpec.ofChange storesVoidWrong)

/-- 'nestboxlaw28.GetsVoid': WHATEVER THE INPUT: true; the input reads as it did. -/
def getsVoidSpec : ChangeSpec := { name := "getsVoid", fn := fun _ => fun
  | [d1, d2] => { results := [.lit (.bool true)], args := [d1, d2] }
  | _ => none }
def getsVoidRow : OpenClaim := { program := "ythpedifjclofoaagreat", sum := "8fd0b723fce4bd3c642ed2bb2d513badbba2df59d6bfa89005a4ea9752387640", func := "nestbox/nestboxlaw28.GetsVoid", spec := "getsVoid", inPlace := ["sync/atomic.StoreUint64", "sync/atomic.AddUint64", "sync/atomic.LoadUint64", "sync/atomic.SwapUint64", "sync/atomic.CompareAndSwapUint64"], unfollowed := true, recurses := true, apart := false }
def GetsVoidSaid : Prop := getsVoidRow.holds Tryz.pinned (OpenSpec.ofChange getsVoidSpec)

/-- ITS FALSE NEIGHBOUR: 'it returns false'. Refute it at one input. -/
def getsVoidWrong : ChangeSpec := { name := "getsVoid", fn := fun _ => fun
  | [d1, d2] => { results := [.lit (.bool false)], args := [d1, d2] }
  | _ => none }
def GetsVoidWrongFalsely : Prop := getsVoidRow.holds Tryz.pinned (OpenSpec.ofChange getsVoidWrong)

/- THE SECOND FORM. 'bulk': how many values and letters a reading holds, each counted each time it is reached (what is shared counts as often as it is met; a slice's spare places count too). A statement '..UptoSaid' is the law's where the arguments, and the package variables that the reading takes, are together of bulk at most 1048576: NARROWER than '..Said'. Prove '..Said' where nothing that the law and all that it calls make is longer than what came in: it says more and counts as full. Else prove '..UptoSaid'. A law counts once. -/
mutual
def uptoBulk {H : Type} : DataW H → Nat
  | .lit (.string bytes) => bytes.length + 1
  | .lit _ => 1
  | .nil => 1
  | .ptr d => uptoBulk d + 1
  | .slice elems spare => uptoBulkAll elems + uptoBulkAll spare + 1
  | .agg parts => uptoBulkAll parts + 1
  | .iface _ d => uptoBulk d + 1
  | .map entries => uptoBulkEntries entries + 1
  | .held _ => 1
def uptoBulkAll {H : Type} : List (DataW H) → Nat
  | [] => 0
  | d :: r => uptoBulk d + uptoBulkAll r
def uptoBulkEntries {H : Type} : List (Lit × DataW H) → Nat
  | [] => 0
  | x :: r => uptoBulkEntry x + uptoBulkEntries r
def uptoBulkEntry {H : Type} : Lit × DataW H → Nat
  | (.string bytes, d) => bytes.length + uptoBulk d + 1
  | (_, d) => uptoBulk d + 1
 end
def uptoSmall : (H : Type) → List (DataW H) → Bool := fun _ ds => decide (uptoBulkAll ds ≤ 1048576)
def OpenSpec.upto (s : _root_.Go.ChangeSpec) : _root_.Go.OpenSpec := { _root_.Go.OpenSpec.ofChange s with cond := some uptoSmall }

/-- 'nestboxlaw25.StoresAgain', WHERE WHAT IT READS IS OF BULK AT MOST 1048576: true; the input reads as it did. -/
def storesAgainUptoRow : OpenClaim := { program := "ythpedifjclofoaagreat", sum := "8fd0b723fce4bd3c642ed2bb2d513badbba2df59d6bfa89005a4ea9752387640", func := "nestbox/nestboxlaw25.StoresAgain", spec := "storesAgain", inPlace := ["sync/atomic.StoreUint64", "sync/atomic.AddUint64", "sync/atomic.LoadUint64", "sync/atomic.SwapUint64"], unfollowed := true, recurses := true, apart := false, narrowed := true }
def StoresAgainUptoSaid : Prop := storesAgainUptoRow.holds Tryz.pinned (OpenSpec.upto storesAgainSpec)

/-- 'nestboxlaw28.GetsQuiet', WHERE WHAT IT READS IS OF BULK AT MOST 1048576: true; the input reads as it did. -/
def getsQuietUptoRow : OpenClaim := { program := "ythpedifjclofoaagreat", sum := "8fd0b723fce4bd3c642ed2bb2d513badbba2df59d6bfa89005a4ea9752387640", func := "nestbox/nestboxlaw28.GetsQuiet", spec := "getsQuiet", inPlace := ["sync/atomic.StoreUint64", "sync/atomic.AddUint64", "sync/atomic.LoadUint64", "sync/atomic.SwapUint64"], unfollowed := true, recurses := true, apart := false, narrowed := true }
def GetsQuietUptoSaid : Prop := getsQuietUptoRow.holds Tryz.pinned (OpenSpec.upto getsQuietSpec)

/-- 'nestboxlaw28.GetsLocked', WHERE WHAT IT READS IS OF BULK AT MOST 1048576: true; the input reads as it did. -/
def getsLockedUptoRow : OpenClaim := { program := "ythpedifjclofoaagreat", sum := "8fd0b723fce4bd3c642ed2bb2d513badbba2df59d6bfa89005a4ea9752387640", func := "nestbox/nestboxlaw28.GetsLocked", spec := "getsLocked", inPlace := ["sync/atomic.StoreUint64", "sync/atomic.AddUint64", "sync/atomic.LoadUint64", "sync/atomic.SwapUint64"], unfollowed := true, recurses := true, apart := false, narrowed := true }
def GetsLockedUptoSaid : Prop := getsLockedUptoRow.holds Tryz.pinned (OpenSpec.upto getsLockedSpec)

/-- 'nestboxlaw25.StoresVoid', WHERE WHAT IT READS IS OF BULK AT MOST 1048576: true; the input reads as it did. -/
def storesVoidUptoRow : OpenClaim := { program := "ythpedifjclofoaagreat", sum := "8fd0b723fce4bd3c642ed2bb2d513badbba2df59d6bfa89005a4ea9752387640", func := "nestbox/nestboxlaw25.StoresVoid", spec := "storesVoid", inPlace := ["sync/atomic.StoreUint64", "sync/atomic.AddUint64", "sync/atomic.LoadUint64", "sync/atomic.SwapUint64", "sync/atomic.CompareAndSwapUint64"], unfollowed := true, recurses := true, apart := false, narrowed := true }
def StoresVoidUptoSaid : Prop := storesVoidUptoRow.holds Tryz.pinned (OpenSpec.upto storesVoidSpec)

/-- 'nestboxlaw28.GetsVoid', WHERE WHAT IT READS IS OF BULK AT MOST 1048576: true; the input reads as it did. -/
def getsVoidUptoRow : OpenClaim := { program := "ythpedifjclofoaagreat", sum := "8fd0b723fce4bd3c642ed2bb2d513badbba2df59d6bfa89005a4ea9752387640", func := "nestbox/nestboxlaw28.GetsVoid", spec := "getsVoid", inPlace := ["sync/atomic.StoreUint64", "sync/atomic.AddUint64", "sync/atomic.LoadUint64", "sync/atomic.SwapUint64", "sync/atomic.CompareAndSwapUint64"], unfollowed := true, recurses := true, apart := false, narrowed := true }
def GetsVoidUptoSaid : Prop := getsVoidUptoRow.holds Tryz.pinned (OpenSpec.upto getsVoidSpec)

end Rows
end Go.Proofs.YthpedifjclofoaaGreat
