/-
  DERIVED. GIVEN WITH THE SEED: THE CARDS: each row of YtifkfhnbkjkakaaGreatDoorRows.lean that lists a variable, with what it lists TIED to the program's text (the seventh form; the later family's looks); each row that meets fmt, with fmt's text TOLD by the authors' own Lean function (tested against real Go, not proved from fmt's source: count such statements apart). THE CARD IS WHAT COUNTS. Prove the row's statement (the work); the ties are given (YtifkfhnbkjkakaaGreatDoorTie.lean); close each card by the builder's one call (the guide's Derived/Test/ToyasCard.lean, 'card_holds'). Laid BY PROGRAM, IN A SANDBOX (cutbox-door.mjs). By AI agents, Wed Nov 11 2026. No macro, syntax, notation, axiom, sorry.
-/
import Derived.Test.YtifkfhnbkjkakaaGreatDoorRows
import GoSem.ClaimSeven
namespace Go.Proofs.YtifkfhnbkjkakaaGreatDoor
namespace Rows

/-- THE TIED CARD OF 'nestboxlaw26.ChangesRow'. -/
def changesRowCard : Claim7 := { stood := { row := changesRowRow, standIns := [], harness := (true, "ba1a0d1c97256539558859b5673ea669bddfd43b77f3510ad46825f7bfd956f9"), looks := true }, kinds := [], alts := [], laidByText := true, laidKinds := [.data, .data, .data, .sentinel, .sentinel], laidTests := true, laidLooks := .later }
def ChangesRowCardSaid : Prop := Claim7.holds Tryz.pinned (.plain (OpenSpec.ofChange changesRowSpec)) changesRowCard

/-- THE TIED CARD OF 'nestboxlaw27.FlushesDie'. -/
def flushesDieCard : Claim7 := { stood := { row := flushesDieRow, standIns := [], harness := (true, "ba1a0d1c97256539558859b5673ea669bddfd43b77f3510ad46825f7bfd956f9"), looks := true }, kinds := [], alts := [], laidByText := true, laidKinds := [.data, .data, .data, .sentinel, .sentinel], laidTests := true, laidLooks := .later }
def FlushesDieCardSaid : Prop := Claim7.holds Tryz.pinned (.plain (OpenSpec.ofChange flushesDieSpec)) flushesDieCard

/-- THE TIED CARD OF 'nestboxlaw26.ChangesVoid'. -/
def changesVoidCard : Claim7 := { stood := { row := changesVoidRow, standIns := [], harness := (true, "ba1a0d1c97256539558859b5673ea669bddfd43b77f3510ad46825f7bfd956f9"), looks := true }, kinds := [], alts := [], laidByText := true, laidKinds := [.data, .data, .data, .sentinel, .sentinel], laidTests := true, laidLooks := .later }
def ChangesVoidCardSaid : Prop := Claim7.holds Tryz.pinned (.plain (OpenSpec.ofChange changesVoidSpec)) changesVoidCard

/-- THE SECOND FORM's CARD OF 'nestboxlaw26.ChangesRow'. -/
def changesRowUptoCard : Claim7 := { stood := { row := changesRowUptoRow, standIns := [], harness := (true, "ba1a0d1c97256539558859b5673ea669bddfd43b77f3510ad46825f7bfd956f9"), looks := true }, kinds := [], alts := [], laidByText := true, laidKinds := [.data, .data, .data, .sentinel, .sentinel], laidTests := true, laidLooks := .later }
def ChangesRowUptoCardSaid : Prop := Claim7.holds Tryz.pinned (.plain (OpenSpec.upto changesRowSpec)) changesRowUptoCard

/-- THE SECOND FORM's CARD OF 'nestboxlaw27.FlushesDie'. -/
def flushesDieUptoCard : Claim7 := { stood := { row := flushesDieUptoRow, standIns := [], harness := (true, "ba1a0d1c97256539558859b5673ea669bddfd43b77f3510ad46825f7bfd956f9"), looks := true }, kinds := [], alts := [], laidByText := true, laidKinds := [.data, .data, .data, .sentinel, .sentinel], laidTests := true, laidLooks := .later }
def FlushesDieUptoCardSaid : Prop := Claim7.holds Tryz.pinned (.plain (OpenSpec.upto flushesDieSpec)) flushesDieUptoCard

/-- THE SECOND FORM's CARD OF 'nestboxlaw26.ChangesVoid'. -/
def changesVoidUptoCard : Claim7 := { stood := { row := changesVoidUptoRow, standIns := [], harness := (true, "ba1a0d1c97256539558859b5673ea669bddfd43b77f3510ad46825f7bfd956f9"), looks := true }, kinds := [], alts := [], laidByText := true, laidKinds := [.data, .data, .data, .sentinel, .sentinel], laidTests := true, laidLooks := .later }
def ChangesVoidUptoCardSaid : Prop := Claim7.holds Tryz.pinned (.plain (OpenSpec.upto changesVoidSpec)) changesVoidUptoCard
end Rows
end Go.Proofs.YtifkfhnbkjkakaaGreatDoor
