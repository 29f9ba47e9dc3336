/-
  No cell of these rows narrows 'for every input' (looked for: loops, veiled, ifaces, maps, wideKeys, modest, calm, conditions, laid).
  DERIVED. THE GIVEN ROWS OF THIS SEAT. 13 by the template 'for every input the law returns true; each argument reads behind the call as it read before'; 0 by the template 'total and deterministic' (their statements: YtlaholgclcffaaaTotals.lean).
  GIVEN WITH THE SEED: the statements are not yours to turn. If you find one false, say at which input.
  Laid BY PROGRAM, IN A SANDBOX (cutbox-rows.mjs): the forced cells as the released guide's own fill.sh prints them over the translation 31155725f3c970ba… (all of the seat's roots in one cut). By AI agents, Wed Nov 11 2026. No macro, syntax, notation, axiom, sorry.
-/
import Derived.Test.YtlaholgclcffaaaChecked
import GoSem.Claim
import GoSem.ClaimJoined
import GoSem.ClaimMapViews
import Derived.JoinedTies
import Derived.KernelRfl
namespace Go.Proofs.Ytlaholgclcffaaa
/- THE CELL 'sum', in the pinned program and in every row, IS THE sha256 OF THE DUMP (.gsa) THAT YtlaholgclcffaaaProg.lean LOADS. Nothing in Lean hashes anything: it is a label: what it is worth is what the hold of that sum in a sandbox is worth. -/
noncomputable def Try.pinned : Pinned := { name := "ytlaholgclcffaaa", sum := "31155725f3c970ba8b2e09b1740d743676c5c83089be3f6f11f3355912563901", checked := Try.checked }
namespace Rows
def none {H : Type} : Left H := { results := [], args := [] }

/-- 'nestboxlaw01.FnvsHash': WHATEVER THE INPUT: true; the input reads as it did. -/
def fnvsHashSpec : ChangeSpec := { name := "fnvsHash", fn := fun _ => fun
  | [d1, d2] => { results := [.lit (.bool true)], args := [d1, d2] }
  | _ => none }
def fnvsHashRow : OpenClaim := { program := "ytlaholgclcffaaa", sum := "31155725f3c970ba8b2e09b1740d743676c5c83089be3f6f11f3355912563901", func := "nestbox/nestboxlaw01.FnvsHash", spec := "fnvsHash", unfollowed := true, recurses := true, apart := false }
def FnvsHashSaid : Prop := fnvsHashRow.holds Try.pinned (OpenSpec.ofChange fnvsHashSpec)

/-- ITS FALSE NEIGHBOUR: 'it returns false'. Refute it at one input. -/
def fnvsHashWrong : ChangeSpec := { name := "fnvsHash", fn := fun _ => fun
  | [d1, d2] => { results := [.lit (.bool false)], args := [d1, d2] }
  | _ => none }
def FnvsHashWrongFalsely : Prop := fnvsHashRow.holds Try.pinned (OpenSpec.ofChange fnvsHashWrong)

/-- 'nestboxlaw01.FnvsPlace': WHATEVER THE INPUT: true; the input reads as it did. -/
def fnvsPlaceSpec : ChangeSpec := { name := "fnvsPlace", fn := fun _ => fun
  | [d1, d2, d3] => { results := [.lit (.bool true)], args := [d1, d2, d3] }
  | _ => none }
def fnvsPlaceRow : OpenClaim := { program := "ytlaholgclcffaaa", sum := "31155725f3c970ba8b2e09b1740d743676c5c83089be3f6f11f3355912563901", func := "nestbox/nestboxlaw01.FnvsPlace", spec := "fnvsPlace", unfollowed := true, recurses := true, apart := false }
def FnvsPlaceSaid : Prop := fnvsPlaceRow.holds Try.pinned (OpenSpec.ofChange fnvsPlaceSpec)

/-- ITS FALSE NEIGHBOUR: 'it returns false'. Refute it at one input. -/
def fnvsPlaceWrong : ChangeSpec := { name := "fnvsPlace", fn := fun _ => fun
  | [d1, d2, d3] => { results := [.lit (.bool false)], args := [d1, d2, d3] }
  | _ => none }
def FnvsPlaceWrongFalsely : Prop := fnvsPlaceRow.holds Try.pinned (OpenSpec.ofChange fnvsPlaceWrong)

/-- 'nestboxlaw01.FnvsBack': WHATEVER THE INPUT: true; the input reads as it did. -/
def fnvsBackSpec : ChangeSpec := { name := "fnvsBack", fn := fun _ => fun
  | [d1, d2, d3] => { results := [.lit (.bool true)], args := [d1, d2, d3] }
  | _ => none }
def fnvsBackRow : OpenClaim := { program := "ytlaholgclcffaaa", sum := "31155725f3c970ba8b2e09b1740d743676c5c83089be3f6f11f3355912563901", func := "nestbox/nestboxlaw01.FnvsBack", spec := "fnvsBack", unfollowed := true, recurses := true, apart := false }
def FnvsBackSaid : Prop := fnvsBackRow.holds Try.pinned (OpenSpec.ofChange fnvsBackSpec)

/-- ITS FALSE NEIGHBOUR: 'it returns false'. Refute it at one input. -/
def fnvsBackWrong : ChangeSpec := { name := "fnvsBack", fn := fun _ => fun
  | [d1, d2, d3] => { results := [.lit (.bool false)], args := [d1, d2, d3] }
  | _ => none }
def FnvsBackWrongFalsely : Prop := fnvsBackRow.holds Try.pinned (OpenSpec.ofChange fnvsBackWrong)

/-- 'nestboxlaw01.FnvsGrow': WHATEVER THE INPUT: true; the input reads as it did. -/
def fnvsGrowSpec : ChangeSpec := { name := "fnvsGrow", fn := fun _ => fun
  | [d1, d2] => { results := [.lit (.bool true)], args := [d1, d2] }
  | _ => none }
def fnvsGrowRow : OpenClaim := { program := "ytlaholgclcffaaa", sum := "31155725f3c970ba8b2e09b1740d743676c5c83089be3f6f11f3355912563901", func := "nestbox/nestboxlaw01.FnvsGrow", spec := "fnvsGrow", unfollowed := true, recurses := true, apart := false }
def FnvsGrowSaid : Prop := fnvsGrowRow.holds Try.pinned (OpenSpec.ofChange fnvsGrowSpec)

/-- ITS FALSE NEIGHBOUR: 'it returns false'. Refute it at one input. -/
def fnvsGrowWrong : ChangeSpec := { name := "fnvsGrow", fn := fun _ => fun
  | [d1, d2] => { results := [.lit (.bool false)], args := [d1, d2] }
  | _ => none }
def FnvsGrowWrongFalsely : Prop := fnvsGrowRow.holds Try.pinned (OpenSpec.ofChange fnvsGrowWrong)

/-- 'nestboxlaw01.FnvsBytes': WHATEVER THE INPUT: true; the input reads as it did. -/
def fnvsBytesSpec : ChangeSpec := { name := "fnvsBytes", fn := fun _ => fun
  | [d1, d2, d3] => { results := [.lit (.bool true)], args := [d1, d2, d3] }
  | _ => none }
def fnvsBytesRow : OpenClaim := { program := "ytlaholgclcffaaa", sum := "31155725f3c970ba8b2e09b1740d743676c5c83089be3f6f11f3355912563901", func := "nestbox/nestboxlaw01.FnvsBytes", spec := "fnvsBytes", unfollowed := true, recurses := true, apart := false }
def FnvsBytesSaid : Prop := fnvsBytesRow.holds Try.pinned (OpenSpec.ofChange fnvsBytesSpec)

/-- ITS FALSE NEIGHBOUR: 'it returns false'. Refute it at one input. -/
def fnvsBytesWrong : ChangeSpec := { name := "fnvsBytes", fn := fun _ => fun
  | [d1, d2, d3] => { results := [.lit (.bool false)], args := [d1, d2, d3] }
  | _ => none }
def FnvsBytesWrongFalsely : Prop := fnvsBytesRow.holds Try.pinned (OpenSpec.ofChange fnvsBytesWrong)

/-- 'nestboxlaw01.FnvsStripes': WHATEVER THE INPUT: true; the input reads as it did. -/
def fnvsStripesSpec : ChangeSpec := { name := "fnvsStripes", fn := fun _ => fun
  | [d1, d2] => { results := [.lit (.bool true)], args := [d1, d2] }
  | _ => none }
def fnvsStripesRow : OpenClaim := { program := "ytlaholgclcffaaa", sum := "31155725f3c970ba8b2e09b1740d743676c5c83089be3f6f11f3355912563901", func := "nestbox/nestboxlaw01.FnvsStripes", spec := "fnvsStripes", unfollowed := true, recurses := true, apart := false }
def FnvsStripesSaid : Prop := fnvsStripesRow.holds Try.pinned (OpenSpec.ofChange fnvsStripesSpec)

/-- ITS FALSE NEIGHBOUR: 'it returns false'. Refute it at one input. -/
def fnvsStripesWrong : ChangeSpec := { name := "fnvsStripes", fn := fun _ => fun
  | [d1, d2] => { results := [.lit (.bool false)], args := [d1, d2] }
  | _ => none }
def FnvsStripesWrongFalsely : Prop := fnvsStripesRow.holds Try.pinned (OpenSpec.ofChange fnvsStripesWrong)

/-- 'nestboxlaw08.PlacesOnce': WHATEVER THE INPUT: true; the input reads as it did. -/
def placesOnceSpec : ChangeSpec := { name := "placesOnce", fn := fun _ => fun
  | [d1, d2, d3] => { results := [.lit (.bool true)], args := [d1, d2, d3] }
  | _ => none }
def placesOnceRow : OpenClaim := { program := "ytlaholgclcffaaa", sum := "31155725f3c970ba8b2e09b1740d743676c5c83089be3f6f11f3355912563901", func := "nestbox/nestboxlaw08.PlacesOnce", spec := "placesOnce", apart := false }
def PlacesOnceSaid : Prop := placesOnceRow.holds Try.pinned (OpenSpec.ofChange placesOnceSpec)

/-- ITS FALSE NEIGHBOUR: 'it returns false'. Refute it at one input. -/
def placesOnceWrong : ChangeSpec := { name := "placesOnce", fn := fun _ => fun
  | [d1, d2, d3] => { results := [.lit (.bool false)], args := [d1, d2, d3] }
  | _ => none }
def PlacesOnceWrongFalsely : Prop := placesOnceRow.holds Try.pinned (OpenSpec.ofChange placesOnceWrong)

/-- 'nestboxlaw08.PlacesMay': WHATEVER THE INPUT: true; the input reads as it did. -/
def placesMaySpec : ChangeSpec := { name := "placesMay", fn := fun _ => fun
  | [d1, d2, d3] => { results := [.lit (.bool true)], args := [d1, d2, d3] }
  | _ => none }
def placesMayRow : OpenClaim := { program := "ytlaholgclcffaaa", sum := "31155725f3c970ba8b2e09b1740d743676c5c83089be3f6f11f3355912563901", func := "nestbox/nestboxlaw08.PlacesMay", spec := "placesMay", apart := false }
def PlacesMaySaid : Prop := placesMayRow.holds Try.pinned (OpenSpec.ofChange placesMaySpec)

/-- ITS FALSE NEIGHBOUR: 'it returns false'. Refute it at one input. -/
def placesMayWrong : ChangeSpec := { name := "placesMay", fn := fun _ => fun
  | [d1, d2, d3] => { results := [.lit (.bool false)], args := [d1, d2, d3] }
  | _ => none }
def PlacesMayWrongFalsely : Prop := placesMayRow.holds Try.pinned (OpenSpec.ofChange placesMayWrong)

/-- 'nestboxlaw08.PlacesWord': WHATEVER THE INPUT: true; the input reads as it did. -/
def placesWordSpec : ChangeSpec := { name := "placesWord", fn := fun _ => fun
  | [d1, d2, d3] => { results := [.lit (.bool true)], args := [d1, d2, d3] }
  | _ => none }
def placesWordRow : OpenClaim := { program := "ytlaholgclcffaaa", sum := "31155725f3c970ba8b2e09b1740d743676c5c83089be3f6f11f3355912563901", func := "nestbox/nestboxlaw08.PlacesWord", spec := "placesWord", apart := false }
def PlacesWordSaid : Prop := placesWordRow.holds Try.pinned (OpenSpec.ofChange placesWordSpec)

/-- ITS FALSE NEIGHBOUR: 'it returns false'. Refute it at one input. -/
def placesWordWrong : ChangeSpec := { name := "placesWord", fn := fun _ => fun
  | [d1, d2, d3] => { results := [.lit (.bool false)], args := [d1, d2, d3] }
  | _ => none }
def PlacesWordWrongFalsely : Prop := placesWordRow.holds Try.pinned (OpenSpec.ofChange placesWordWrong)

/-- 'nestboxlaw08.PlacesAddr': WHATEVER THE INPUT: true; the input reads as it did. -/
def placesAddrSpec : ChangeSpec := { name := "placesAddr", fn := fun _ => fun
  | [d1, d2] => { results := [.lit (.bool true)], args := [d1, d2] }
  | _ => none }
def placesAddrRow : OpenClaim := { program := "ytlaholgclcffaaa", sum := "31155725f3c970ba8b2e09b1740d743676c5c83089be3f6f11f3355912563901", func := "nestbox/nestboxlaw08.PlacesAddr", spec := "placesAddr", apart := false }
def PlacesAddrSaid : Prop := placesAddrRow.holds Try.pinned (OpenSpec.ofChange placesAddrSpec)

/-- ITS FALSE NEIGHBOUR: 'it returns false'. Refute it at one input. -/
def placesAddrWrong : ChangeSpec := { name := "placesAddr", fn := fun _ => fun
  | [d1, d2] => { results := [.lit (.bool false)], args := [d1, d2] }
  | _ => none }
def PlacesAddrWrongFalsely : Prop := placesAddrRow.holds Try.pinned (OpenSpec.ofChange placesAddrWrong)

/-- 'nestboxlaw08.PlacesApart': WHATEVER THE INPUT: true; the input reads as it did. -/
def placesApartSpec : ChangeSpec := { name := "placesApart", fn := fun _ => fun
  | [d1, d2, d3] => { results := [.lit (.bool true)], args := [d1, d2, d3] }
  | _ => none }
def placesApartRow : OpenClaim := { program := "ytlaholgclcffaaa", sum := "31155725f3c970ba8b2e09b1740d743676c5c83089be3f6f11f3355912563901", func := "nestbox/nestboxlaw08.PlacesApart", spec := "placesApart", apart := false }
def PlacesApartSaid : Prop := placesApartRow.holds Try.pinned (OpenSpec.ofChange placesApartSpec)

/-- ITS FALSE NEIGHBOUR: 'it returns false'. Refute it at one input. -/
def placesApartWrong : ChangeSpec := { name := "placesApart", fn := fun _ => fun
  | [d1, d2, d3] => { results := [.lit (.bool false)], args := [d1, d2, d3] }
  | _ => none }
def PlacesApartWrongFalsely : Prop := placesApartRow.holds Try.pinned (OpenSpec.ofChange placesApartWrong)

/-- 'nestboxlaw08.PlacesOf': WHATEVER THE INPUT: true; the input reads as it did. -/
def placesOfSpec : ChangeSpec := { name := "placesOf", fn := fun _ => fun
  | [d1, d2] => { results := [.lit (.bool true)], args := [d1, d2] }
  | _ => none }
def placesOfRow : OpenClaim := { program := "ytlaholgclcffaaa", sum := "31155725f3c970ba8b2e09b1740d743676c5c83089be3f6f11f3355912563901", func := "nestbox/nestboxlaw08.PlacesOf", spec := "placesOf", unfollowed := true, recurses := true, apart := false }
def PlacesOfSaid : Prop := placesOfRow.holds Try.pinned (OpenSpec.ofChange placesOfSpec)

/-- ITS FALSE NEIGHBOUR: 'it returns false'. Refute it at one input. -/
def placesOfWrong : ChangeSpec := { name := "placesOf", fn := fun _ => fun
  | [d1, d2] => { results := [.lit (.bool false)], args := [d1, d2] }
  | _ => none }
def PlacesOfWrongFalsely : Prop := placesOfRow.holds Try.pinned (OpenSpec.ofChange placesOfWrong)

/-- 'nestboxlaw08.PlacesFound': WHATEVER THE INPUT: true; the input reads as it did. -/
def placesFoundSpec : ChangeSpec := { name := "placesFound", fn := fun _ => fun
  | [d1, d2, d3] => { results := [.lit (.bool true)], args := [d1, d2, d3] }
  | _ => none }
def placesFoundRow : OpenClaim := { program := "ytlaholgclcffaaa", sum := "31155725f3c970ba8b2e09b1740d743676c5c83089be3f6f11f3355912563901", func := "nestbox/nestboxlaw08.PlacesFound", spec := "placesFound", unfollowed := true, recurses := true, apart := false }
def PlacesFoundSaid : Prop := placesFoundRow.holds Try.pinned (OpenSpec.ofChange placesFoundSpec)

/-- ITS FALSE NEIGHBOUR: 'it returns false'. Refute it at one input. -/
def placesFoundWrong : ChangeSpec := { name := "placesFound", fn := fun _ => fun
  | [d1, d2, d3] => { results := [.lit (.bool false)], args := [d1, d2, d3] }
  | _ => none }
def PlacesFoundWrongFalsely : Prop := placesFoundRow.holds Try.pinned (OpenSpec.ofChange placesFoundWrong)

/- THE SECOND FORM. 'bulk': how many values and letters a reading holds, each counted each time it is reached (what is shared counts as often as it is met; a slice's spare places count too). A statement '..UptoSaid' is the law's where the arguments, and the package variables that the reading takes, are together of bulk at most 1048576: NARROWER than '..Said'. Prove '..Said' where nothing that the law and all that it calls make is longer than what came in: it says more and counts as full. Else prove '..UptoSaid'. A law counts once. -/
mutual
def uptoBulk {H : Type} : DataW H → Nat
  | .lit (.string bytes) => bytes.length + 1
  | .lit _ => 1
  | .nil => 1
  | .ptr d => uptoBulk d + 1
  | .slice elems spare => uptoBulkAll elems + uptoBulkAll spare + 1
  | .agg parts => uptoBulkAll parts + 1
  | .iface _ d => uptoBulk d + 1
  | .map entries => uptoBulkEntries entries + 1
  | .held _ => 1
def uptoBulkAll {H : Type} : List (DataW H) → Nat
  | [] => 0
  | d :: r => uptoBulk d + uptoBulkAll r
def uptoBulkEntries {H : Type} : List (Lit × DataW H) → Nat
  | [] => 0
  | x :: r => uptoBulkEntry x + uptoBulkEntries r
def uptoBulkEntry {H : Type} : Lit × DataW H → Nat
  | (.string bytes, d) => bytes.length + uptoBulk d + 1
  | (_, d) => uptoBulk d + 1
 end
def uptoSmall : (H : Type) → List (DataW H) → Bool := fun _ ds => decide (uptoBulkAll ds ≤ 1048576)
def OpenSpec.upto (s : _root_.Go.ChangeSpec) : _root_.Go.OpenSpec := { _root_.Go.OpenSpec.ofChange s with cond := some uptoSmall }

/-- 'nestboxlaw01.FnvsHash', WHERE WHAT IT READS IS OF BULK AT MOST 1048576: true; the input reads as it did. -/
def fnvsHashUptoRow : OpenClaim := { program := "ytlaholgclcffaaa", sum := "31155725f3c970ba8b2e09b1740d743676c5c83089be3f6f11f3355912563901", func := "nestbox/nestboxlaw01.FnvsHash", spec := "fnvsHash", unfollowed := true, recurses := true, apart := false, narrowed := true }
def FnvsHashUptoSaid : Prop := fnvsHashUptoRow.holds Try.pinned (OpenSpec.upto fnvsHashSpec)

/-- 'nestboxlaw01.FnvsPlace', WHERE WHAT IT READS IS OF BULK AT MOST 1048576: true; the input reads as it did. -/
def fnvsPlaceUptoRow : OpenClaim := { program := "ytlaholgclcffaaa", sum := "31155725f3c970ba8b2e09b1740d743676c5c83089be3f6f11f3355912563901", func := "nestbox/nestboxlaw01.FnvsPlace", spec := "fnvsPlace", unfollowed := true, recurses := true, apart := false, narrowed := true }
def FnvsPlaceUptoSaid : Prop := fnvsPlaceUptoRow.holds Try.pinned (OpenSpec.upto fnvsPlaceSpec)

/-- 'nestboxlaw01.FnvsBack', WHERE WHAT IT READS IS OF BULK AT MOST 1048576: true; the input reads as it did. -/
def fnvsBackUptoRow : OpenClaim := { program := "ytlaholgclcffaaa", sum := "31155725f3c970ba8b2e09b1740d743676c5c83089be3f6f11f3355912563901", func := "nestbox/nestboxlaw01.FnvsBack", spec := "fnvsBack", unfollowed := true, recurses := true, apart := false, narrowed := true }
def FnvsBackUptoSaid : Prop := fnvsBackUptoRow.holds Try.pinned (OpenSpec.upto fnvsBackSpec)

/-- 'nestboxlaw01.FnvsGrow', WHERE WHAT IT READS IS OF BULK AT MOST 1048576: true; the input reads as it did. -/
def fnvsGrowUptoRow : OpenClaim := { program := "ytlaholgclcffaaa", sum := "31155725f3c970ba8b2e09b1740d743676c5c83089be3f6f11f3355912563901", func := "nestbox/nestboxlaw01.FnvsGrow", spec := "fnvsGrow", unfollowed := true, recurses := true, apart := false, narrowed := true }
def FnvsGrowUptoSaid : Prop := fnvsGrowUptoRow.holds Try.pinned (OpenSpec.upto fnvsGrowSpec)

/-- 'nestboxlaw01.FnvsBytes', WHERE WHAT IT READS IS OF BULK AT MOST 1048576: true; the input reads as it did. -/
def fnvsBytesUptoRow : OpenClaim := { program := "ytlaholgclcffaaa", sum := "31155725f3c970ba8b2e09b1740d743676c5c83089be3f6f11f3355912563901", func := "nestbox/nestboxlaw01.FnvsBytes", spec := "fnvsBytes", unfollowed := true, recurses := true, apart := false, narrowed := true }
def FnvsBytesUptoSaid : Prop := fnvsBytesUptoRow.holds Try.pinned (OpenSpec.upto fnvsBytesSpec)

/-- 'nestboxlaw01.FnvsStripes', WHERE WHAT IT READS IS OF BULK AT MOST 1048576: true; the input reads as it did. -/
def fnvsStripesUptoRow : OpenClaim := { program := "ytlaholgclcffaaa", sum := "31155725f3c970ba8b2e09b1740d743676c5c83089be3f6f11f3355912563901", func := "nestbox/nestboxlaw01.FnvsStripes", spec := "fnvsStripes", unfollowed := true, recurses := true, apart := false, narrowed := true }
def FnvsStripesUptoSaid : Prop := fnvsStripesUptoRow.holds Try.pinned (OpenSpec.upto fnvsStripesSpec)

/-- 'nestboxlaw08.PlacesOnce', WHERE WHAT IT READS IS OF BULK AT MOST 1048576: true; the input reads as it did. -/
def placesOnceUptoRow : OpenClaim := { program := "ytlaholgclcffaaa", sum := "31155725f3c970ba8b2e09b1740d743676c5c83089be3f6f11f3355912563901", func := "nestbox/nestboxlaw08.PlacesOnce", spec := "placesOnce", apart := false, narrowed := true }
def PlacesOnceUptoSaid : Prop := placesOnceUptoRow.holds Try.pinned (OpenSpec.upto placesOnceSpec)

/-- 'nestboxlaw08.PlacesMay', WHERE WHAT IT READS IS OF BULK AT MOST 1048576: true; the input reads as it did. -/
def placesMayUptoRow : OpenClaim := { program := "ytlaholgclcffaaa", sum := "31155725f3c970ba8b2e09b1740d743676c5c83089be3f6f11f3355912563901", func := "nestbox/nestboxlaw08.PlacesMay", spec := "placesMay", apart := false, narrowed := true }
def PlacesMayUptoSaid : Prop := placesMayUptoRow.holds Try.pinned (OpenSpec.upto placesMaySpec)

/-- 'nestboxlaw08.PlacesWord', WHERE WHAT IT READS IS OF BULK AT MOST 1048576: true; the input reads as it did. -/
def placesWordUptoRow : OpenClaim := { program := "ytlaholgclcffaaa", sum := "31155725f3c970ba8b2e09b1740d743676c5c83089be3f6f11f3355912563901", func := "nestbox/nestboxlaw08.PlacesWord", spec := "placesWord", apart := false, narrowed := true }
def PlacesWordUptoSaid : Prop := placesWordUptoRow.holds Try.pinned (OpenSpec.upto placesWordSpec)

/-- 'nestboxlaw08.PlacesAddr', WHERE WHAT IT READS IS OF BULK AT MOST 1048576: true; the input reads as it did. -/
def placesAddrUptoRow : OpenClaim := { program := "ytlaholgclcffaaa", sum := "31155725f3c970ba8b2e09b1740d743676c5c83089be3f6f11f3355912563901", func := "nestbox/nestboxlaw08.PlacesAddr", spec := "placesAddr", apart := false, narrowed := true }
def PlacesAddrUptoSaid : Prop := placesAddrUptoRow.holds Try.pinned (OpenSpec.upto placesAddrSpec)

/-- 'nestboxlaw08.PlacesApart', WHERE WHAT IT READS IS OF BULK AT MOST 1048576: true; the input reads as it did. -/
def placesApartUptoRow : OpenClaim := { program := "ytlaholgclcffaaa", sum := "31155725f3c970ba8b2e09b1740d743676c5c83089be3f6f11f3355912563901", func := "nestbox/nestboxlaw08.PlacesApart", spec := "placesApart", apart := false, narrowed := true }
def PlacesApartUptoSaid : Prop := placesApartUptoRow.holds Try.pinned (OpenSpec.upto placesApartSpec)

/-- 'nestboxlaw08.PlacesOf', WHERE WHAT IT READS IS OF BULK AT MOST 1048576: true; the input reads as it did. -/
def placesOfUptoRow : OpenClaim := { program := "ytlaholgclcffaaa", sum := "31155725f3c970ba8b2e09b1740d743676c5c83089be3f6f11f3355912563901", func := "nestbox/nestboxlaw08.PlacesOf", spec := "placesOf", unfollowed := true, recurses := true, apart := false, narrowed := true }
def PlacesOfUptoSaid : Prop := placesOfUptoRow.holds Try.pinned (OpenSpec.upto placesOfSpec)

/-- 'nestboxlaw08.PlacesFound', WHERE WHAT IT READS IS OF BULK AT MOST 1048576: true; the input reads as it did. -/
def placesFoundUptoRow : OpenClaim := { program := "ytlaholgclcffaaa", sum := "31155725f3c970ba8b2e09b1740d743676c5c83089be3f6f11f3355912563901", func := "nestbox/nestboxlaw08.PlacesFound", spec := "placesFound", unfollowed := true, recurses := true, apart := false, narrowed := true }
def PlacesFoundUptoSaid : Prop := placesFoundUptoRow.holds Try.pinned (OpenSpec.upto placesFoundSpec)

end Rows
end Go.Proofs.Ytlaholgclcffaaa
